/- The two packages' rising, printable and normalized, the content package's validSegment: contracts. Conditions: those of each theorem. -/
import Derived.Test.YtnlenappjjlbjaaGreatDoorQItA
import Derived.Test.YtnlenappjjlbjaaGreatDoorQApp
import Derived.Test.YtnlenappjjlbjaaGreatDoorQItP
import Derived.Deep.AppendLies
namespace Go.Proofs.YtnlenappjjlbjaaGreatDoor
open Go.RowKit


set_option maxRecDepth 100000 in
set_option maxHeartbeats 1600000 in
theorem rising_any (A : Option Addr) (c : Nat) (l : List Int) (lo hi : Int) (w : World) (h : SlI w A l) (hl : l.length ≤ 9223372036854775807) :
    Calls Tryz.prog 92 #[.slice A l.length c,.int .i64 lo,.int .i64 hi] w fun e w'=>e=.returned (.bool (It.rising l lo hi))∧w=w':=by
 have H:=Hi h
 clear h
 obtain ⟨v,hv⟩:∃ v,It.rising l lo hi=v:=⟨_,rfl⟩
 have HV:=Hi hv
 rw [hv]
 clear hv
 go_enter Tryz.func92,Tryz.ntmps92
 go_wp2
 go_loop [11] (fun i=>∃ k:Nat,k≤l.length∧i=.int .i64 k∧Hid (It.allN (It.risA l lo hi) k=true)) (fun i=>l.length-(intOf i).toNat)
 case atStart=>exact ⟨0,by omega,rfl,Hi rfl⟩
 case round =>
  obtain ⟨k,hk,rfl,HA⟩:=hrel
  by_cases hlt:k<l.length
  · obtain ⟨b,off,x,rfl,hb,hx,hc⟩:=H.out.at_ hlt
    have hxd:Hid (l.getD k 0=x):=Hi (by rw [List.getD_eq_getElem?_getD,hx];rfl)
    clear hx
    have hend:It.risA l lo hi k=false→Hid (v=false):=fun g=>Hi (by rw [← HV.out];exact It.allN_no hlt g)
    have hnext:It.risA l lo hi k=true→Hid (It.allN (It.risA l lo hi) (k+1)=true):=fun g=>Hi (It.allN_next HA.out g)
    have hra:It.risA l lo hi k=(It.wi x lo hi && (decide (k=0) || decide (l.getD (k-1) 0<x))):=by unfold It.risA;rw [hxd.out]
    have HR:=Hi hra
    have HE:=Hi hend
    have HN:=Hi hnext
    clear hra hend hnext
    obtain ⟨q,hq⟩:∃ q,It.wi x lo hi=q:=⟨_,rfl⟩
    have HQ:=Hi hq
    clear hq
    cases q with
    | false =>
     have HF:=HE.out (by rw [HR.out,HQ.out];rfl)
     go_wp2_with (go_at_call 88;refine (within_any _ _ _ _).mono ?_;rintro e w' ⟨rfl,rfl⟩;rw [HQ.out])
     go_ret
     exact ⟨ret_bool HF.out.symm,rfl⟩
    | true =>
     rcases Nat.eq_zero_or_pos k with h0 | h0
     · subst h0
       have hc0:w.cell? ⟨b,off,none⟩=some (.int .i64 x):=by simpa using hc
       have HF:=HN.out (by rw [HR.out,HQ.out];rfl)
       go_wp2_with (go_at_call 88;refine (within_any _ _ _ _).mono ?_;rintro e w' ⟨rfl,rfl⟩;rw [HQ.out])
       go_round
       case rel=>exact ⟨0+1,by omega,by go_num,HF⟩
       case measure=>simp [intOf];omega
     · obtain ⟨j,rfl⟩:∃ j,k=j+1:=⟨k-1,by omega⟩
       obtain ⟨b',off',y,e',hb',hy,hc'⟩:=H.out.at_ (i:=j) (by omega)
       obtain ⟨rfl,rfl⟩:b=b'∧off=off':=by cases e';exact ⟨rfl,rfl⟩
       have hyd:Hid (l.getD (j+1-1) 0=y):=Hi (by rw [Nat.add_sub_cancel,List.getD_eq_getElem?_getD,hy];rfl)
       clear hy e'
       by_cases hxy:x≤y
       · have HF:=HE.out (by rw [HR.out,HQ.out,hyd.out,decide_eq_false (show ¬ (j+1=0) by omega),decide_eq_false (show ¬ (y<x) by omega)];rfl)
         go_wp2_with (go_at_call 88;refine (within_any _ _ _ _).mono ?_;rintro e w' ⟨rfl,rfl⟩;rw [HQ.out])
         go_ret
         exact ⟨ret_bool HF.out.symm,rfl⟩
       · have hxy':y<x:=by omega
         have HF:=HN.out (by rw [HR.out,HQ.out,hyd.out,decide_eq_true hxy',Bool.or_true];rfl)
         clear hxy
         go_wp2_with (go_at_call 88;refine (within_any _ _ _ _).mono ?_;rintro e w' ⟨rfl,rfl⟩;rw [HQ.out])
         go_round
         case rel=>exact ⟨j+1+1,by omega,by go_num,HF⟩
         case measure=>simp [intOf];omega
  · have HF:Hid (v=true):=Hi (by rw [← HV.out];unfold It.rising;rw [show l.length=k by omega];exact HA.out)
    go_wp2
    go_ret
    exact ⟨ret_bool HF.out.symm,rfl⟩


set_option maxRecDepth 100000 in
set_option maxHeartbeats 1600000 in
theorem rrising_any (A : Option Addr) (c : Nat) (l : List Int) (lo hi : Int) (w : World) (h : SlI w A l) (hl : l.length ≤ 9223372036854775807) :
    Calls Tryz.prog 102 #[.slice A l.length c,.int .i64 lo,.int .i64 hi] w fun e w'=>e=.returned (.bool (It.rising l lo hi))∧w=w':=by
 have H:=Hi h
 clear h
 obtain ⟨v,hv⟩:∃ v,It.rising l lo hi=v:=⟨_,rfl⟩
 have HV:=Hi hv
 rw [hv]
 clear hv
 go_enter Tryz.func102,Tryz.ntmps102
 go_wp2
 go_loop [11] (fun i=>∃ k:Nat,k≤l.length∧i=.int .i64 k∧Hid (It.allN (It.risA l lo hi) k=true)) (fun i=>l.length-(intOf i).toNat)
 case atStart=>exact ⟨0,by omega,rfl,Hi rfl⟩
 case round =>
  obtain ⟨k,hk,rfl,HA⟩:=hrel
  by_cases hlt:k<l.length
  · obtain ⟨b,off,x,rfl,hb,hx,hc⟩:=H.out.at_ hlt
    have hxd:Hid (l.getD k 0=x):=Hi (by rw [List.getD_eq_getElem?_getD,hx];rfl)
    clear hx
    have hend:It.risA l lo hi k=false→Hid (v=false):=fun g=>Hi (by rw [← HV.out];exact It.allN_no hlt g)
    have hnext:It.risA l lo hi k=true→Hid (It.allN (It.risA l lo hi) (k+1)=true):=fun g=>Hi (It.allN_next HA.out g)
    have hra:It.risA l lo hi k=(It.wi x lo hi && (decide (k=0) || decide (l.getD (k-1) 0<x))):=by unfold It.risA;rw [hxd.out]
    have HR:=Hi hra
    have HE:=Hi hend
    have HN:=Hi hnext
    clear hra hend hnext
    obtain ⟨q,hq⟩:∃ q,It.wi x lo hi=q:=⟨_,rfl⟩
    have HQ:=Hi hq
    clear hq
    cases q with
    | false =>
     have HF:=HE.out (by rw [HR.out,HQ.out];rfl)
     go_wp2_with (go_at_call 99;refine (rwithin_any _ _ _ _).mono ?_;rintro e w' ⟨rfl,rfl⟩;rw [HQ.out])
     go_ret
     exact ⟨ret_bool HF.out.symm,rfl⟩
    | true =>
     rcases Nat.eq_zero_or_pos k with h0 | h0
     · subst h0
       have hc0:w.cell? ⟨b,off,none⟩=some (.int .i64 x):=by simpa using hc
       have HF:=HN.out (by rw [HR.out,HQ.out];rfl)
       go_wp2_with (go_at_call 99;refine (rwithin_any _ _ _ _).mono ?_;rintro e w' ⟨rfl,rfl⟩;rw [HQ.out])
       go_round
       case rel=>exact ⟨0+1,by omega,by go_num,HF⟩
       case measure=>simp [intOf];omega
     · obtain ⟨j,rfl⟩:∃ j,k=j+1:=⟨k-1,by omega⟩
       obtain ⟨b',off',y,e',hb',hy,hc'⟩:=H.out.at_ (i:=j) (by omega)
       obtain ⟨rfl,rfl⟩:b=b'∧off=off':=by cases e';exact ⟨rfl,rfl⟩
       have hyd:Hid (l.getD (j+1-1) 0=y):=Hi (by rw [Nat.add_sub_cancel,List.getD_eq_getElem?_getD,hy];rfl)
       clear hy e'
       by_cases hxy:x≤y
       · have HF:=HE.out (by rw [HR.out,HQ.out,hyd.out,decide_eq_false (show ¬ (j+1=0) by omega),decide_eq_false (show ¬ (y<x) by omega)];rfl)
         go_wp2_with (go_at_call 99;refine (rwithin_any _ _ _ _).mono ?_;rintro e w' ⟨rfl,rfl⟩;rw [HQ.out])
         go_ret
         exact ⟨ret_bool HF.out.symm,rfl⟩
       · have hxy':y<x:=by omega
         have HF:=HN.out (by rw [HR.out,HQ.out,hyd.out,decide_eq_true hxy',Bool.or_true];rfl)
         clear hxy
         go_wp2_with (go_at_call 99;refine (rwithin_any _ _ _ _).mono ?_;rintro e w' ⟨rfl,rfl⟩;rw [HQ.out])
         go_round
         case rel=>exact ⟨j+1+1,by omega,by go_num,HF⟩
         case measure=>simp [intOf];omega
  · have HF:Hid (v=true):=Hi (by rw [← HV.out];unfold It.rising;rw [show l.length=k by omega];exact HA.out)
    go_wp2
    go_ret
    exact ⟨ret_bool HF.out.symm,rfl⟩


set_option maxRecDepth 100000 in
set_option maxHeartbeats 1600000 in
theorem printable_any (s : ByteArray) (most : Nat) (w : World) (hs : s.size ≤ 9223372036854775807) :
    Calls Tryz.prog 118 #[.string s,.int .i64 most] w fun e w'=>e=.returned (.bool (It.prn s most false))∧w=w':=by
 obtain ⟨v,hv⟩:∃ v,It.prn s most false=v:=⟨_,rfl⟩
 have HV:=Hi hv
 rw [hv]
 clear hv
 go_enter Tryz.func118,Tryz.ntmps118
 go_wp2
 go_loop [5] (fun i=>∃ k:Nat,k≤s.size∧i=.int .i64 k∧Hid (It.allN (fun i=>It.okc false (It.by_ s i)) k=true)) (fun i=>s.size-(intOf i).toNat)
 case atStart=>exact ⟨0,by omega,rfl,Hi rfl⟩
 case round =>
  obtain ⟨k,hk,rfl,HA⟩:=hrel
  by_cases hlt:k<s.size
  · have hby:=It.by_at s hlt
    have HE:Hid ((fun i=>It.okc false (It.by_ s i)) k=false→Hid (v=false)):=Hi fun g=>Hi (by
     rw [← HV.out];unfold It.prn;rw [It.allN_no hlt g];simp)
    have HN:Hid ((fun i=>It.okc false (It.by_ s i)) k=true→Hid (It.allN (fun i=>It.okc false (It.by_ s i)) (k+1)=true)):=Hi fun g=>Hi (It.allN_next HA.out g)
    rcases (show ((s[k].toNat:Int)<32)∨(32≤(s[k].toNat:Int)∧126<(s[k].toNat:Int))∨(32≤(s[k].toNat:Int)∧(s[k].toNat:Int)≤126) by omega) with h1 | ⟨h1,h2⟩ | ⟨h1,h2⟩
    · have HF:=HE.out (by show It.okc false (It.by_ s k)=false;rw [hby];unfold It.okc;simp;omega)
      clear hby
      go_wp2
      all_goals
       go_ret
       exact ⟨ret_bool HF.out.symm,rfl⟩
    · have HF:=HE.out (by show It.okc false (It.by_ s k)=false;rw [hby];unfold It.okc;simp;omega)
      clear hby
      go_wp2
      all_goals
       go_ret
       exact ⟨ret_bool HF.out.symm,rfl⟩
    · have HF:=HN.out (by show It.okc false (It.by_ s k)=true;rw [hby];unfold It.okc;simp;omega)
      clear hby
      go_wp2
      all_goals
       go_round
       case rel=>exact ⟨k+1,by omega,by go_num,HF⟩
       case measure=>simp [intOf];omega
  · obtain rfl:k=s.size:=by omega
    have HF:Hid (v=(decide (1≤s.size) && decide (s.size≤most))):=Hi (by rw [← HV.out];unfold It.prn;rw [HA.out,Bool.and_true])
    rcases (show (s.size<1)∨(1≤s.size∧most<s.size)∨(1≤s.size∧s.size≤most) by omega) with h1 | ⟨h1,h2⟩ | ⟨h1,h2⟩
    · have HF2:Hid (v=false):=Hi (by rw [HF.out,decide_eq_false (by omega)];rfl)
      go_wp2
      go_ret
      exact ⟨ret_bool (by first | exact HF2.out.symm | (rw [HF2.out];exact decide_eq_false (by omega)) | (rw [HF2.out];exact decide_eq_true (by omega))),rfl⟩
    · have HF2:Hid (v=false):=Hi (by rw [HF.out,decide_eq_false (show ¬ s.size≤most by omega),Bool.and_false])
      go_wp2
      go_ret
      exact ⟨ret_bool (by first | exact HF2.out.symm | (rw [HF2.out];exact decide_eq_false (by omega)) | (rw [HF2.out];exact decide_eq_true (by omega))),rfl⟩
    · have HF2:Hid (v=true):=Hi (by rw [HF.out,decide_eq_true h1,decide_eq_true h2];rfl)
      go_wp2
      go_ret
      exact ⟨ret_bool (by first | exact HF2.out.symm | (rw [HF2.out];exact decide_eq_false (by omega)) | (rw [HF2.out];exact decide_eq_true (by omega))),rfl⟩


set_option maxRecDepth 100000 in
set_option maxHeartbeats 1600000 in
theorem rprintable_false_any (s : ByteArray) (most : Nat) (w : World) (hs : s.size ≤ 9223372036854775807) :
    Calls Tryz.prog 125 #[.string s,.int .i64 most,.bool false] w fun e w'=>e=.returned (.bool (It.prn s most false))∧w=w':=by
 obtain ⟨v,hv⟩:∃ v,It.prn s most false=v:=⟨_,rfl⟩
 have HV:=Hi hv
 rw [hv]
 clear hv
 have hno:¬ (1≤s.size∧s.size≤most)→Hid (v=false):=fun g=>Hi (by rw [← HV.out];unfold It.prn;simp;omega)
 have HNO:=Hi hno
 clear hno
 by_cases hz1:1≤s.size
 case neg =>
  have hz1':s.size<1:=by omega
  have HF:=HNO.out (by omega)
  clear hz1
  go_enter Tryz.func125,Tryz.ntmps125
  go_wp2
  go_ret
  exact ⟨ret_bool HF.out.symm,rfl⟩
 by_cases hz2:s.size≤most
 case neg =>
  have hz2':most<s.size:=by omega
  have HF:=HNO.out (by omega)
  clear hz2
  go_enter Tryz.func125,Tryz.ntmps125
  go_wp2
  go_ret
  exact ⟨ret_bool HF.out.symm,rfl⟩
 go_enter Tryz.func125,Tryz.ntmps125
 go_wp2
 go_loop [7] (fun i=>∃ k:Nat,k≤s.size∧i=.int .i64 k∧Hid (It.allN (fun i=>It.okc false (It.by_ s i)) k=true)) (fun i=>s.size-(intOf i).toNat)
 case atStart=>exact ⟨0,by omega,rfl,Hi rfl⟩
 case round =>
  obtain ⟨k,hk,rfl,HA⟩:=hrel
  by_cases hlt:k<s.size
  · have hby:=It.by_at s hlt
    have HE:Hid ((fun i=>It.okc false (It.by_ s i)) k=false→Hid (v=false)):=Hi fun g=>Hi (by
     rw [← HV.out];unfold It.prn;rw [It.allN_no hlt g];simp)
    have HN:Hid ((fun i=>It.okc false (It.by_ s i)) k=true→Hid (It.allN (fun i=>It.okc false (It.by_ s i)) (k+1)=true)):=Hi fun g=>Hi (It.allN_next HA.out g)
    rcases (show ((s[k].toNat:Int)<32)∨(32≤(s[k].toNat:Int)∧126<(s[k].toNat:Int))∨(32≤(s[k].toNat:Int)∧(s[k].toNat:Int)≤126) by omega) with h1 | ⟨h1,h2⟩ | ⟨h1,h2⟩
    · have HF:=HE.out (by show It.okc false (It.by_ s k)=false;rw [hby];unfold It.okc;simp;omega)
      clear hby
      go_wp2
      all_goals
       go_ret
       exact ⟨ret_bool HF.out.symm,rfl⟩
    · have HF:=HE.out (by show It.okc false (It.by_ s k)=false;rw [hby];unfold It.okc;simp;omega)
      clear hby
      go_wp2
      all_goals
       go_ret
       exact ⟨ret_bool HF.out.symm,rfl⟩
    · have HF:=HN.out (by show It.okc false (It.by_ s k)=true;rw [hby];unfold It.okc;simp;omega)
      clear hby
      go_wp2
      all_goals
       go_round
       case rel=>exact ⟨k+1,by omega,by go_num,HF⟩
       case measure=>simp [intOf];omega
  · obtain rfl:k=s.size:=by omega
    have HF:Hid (v=true):=Hi (by rw [← HV.out];unfold It.prn;rw [HA.out,decide_eq_true hz1,decide_eq_true hz2];rfl)
    go_wp2
    go_ret
    exact ⟨ret_bool HF.out.symm,rfl⟩


set_option maxRecDepth 100000 in
set_option maxHeartbeats 1600000 in
theorem rprintable_true_any (s : ByteArray) (most : Nat) (w : World) (hs : s.size ≤ 9223372036854775807) :
    Calls Tryz.prog 125 #[.string s,.int .i64 most,.bool true] w fun e w'=>e=.returned (.bool (It.prn s most true))∧w=w':=by
 obtain ⟨v,hv⟩:∃ v,It.prn s most true=v:=⟨_,rfl⟩
 have HV:=Hi hv
 rw [hv]
 clear hv
 have hno:¬ (1≤s.size∧s.size≤most)→Hid (v=false):=fun g=>Hi (by rw [← HV.out];unfold It.prn;simp;omega)
 have HNO:=Hi hno
 clear hno
 by_cases hz1:1≤s.size
 case neg =>
  have hz1':s.size<1:=by omega
  have HF:=HNO.out (by omega)
  clear hz1
  go_enter Tryz.func125,Tryz.ntmps125
  go_wp2
  go_ret
  exact ⟨ret_bool HF.out.symm,rfl⟩
 by_cases hz2:s.size≤most
 case neg =>
  have hz2':most<s.size:=by omega
  have HF:=HNO.out (by omega)
  clear hz2
  go_enter Tryz.func125,Tryz.ntmps125
  go_wp2
  go_ret
  exact ⟨ret_bool HF.out.symm,rfl⟩
 go_enter Tryz.func125,Tryz.ntmps125
 go_wp2
 go_loop [7] (fun i=>∃ k:Nat,k≤s.size∧i=.int .i64 k∧Hid (It.allN (fun i=>It.okc true (It.by_ s i)) k=true)) (fun i=>s.size-(intOf i).toNat)
 case atStart=>exact ⟨0,by omega,rfl,Hi rfl⟩
 case round =>
  obtain ⟨k,hk,rfl,HA⟩:=hrel
  by_cases hlt:k<s.size
  · have hby:=It.by_at s hlt
    have HE:Hid ((fun i=>It.okc true (It.by_ s i)) k=false→Hid (v=false)):=Hi fun g=>Hi (by
     rw [← HV.out];unfold It.prn;rw [It.allN_no hlt g];simp)
    have HN:Hid ((fun i=>It.okc true (It.by_ s i)) k=true→Hid (It.allN (fun i=>It.okc true (It.by_ s i)) (k+1)=true)):=Hi fun g=>Hi (It.allN_next HA.out g)
    rcases (show ((s[k].toNat:Int)<32∧((s[k].toNat:Int) == 10)=false)∨((s[k].toNat:Int)<32∧((s[k].toNat:Int) == 10)=true)∨(32≤(s[k].toNat:Int)∧126<(s[k].toNat:Int)∧((s[k].toNat:Int) == 10)=false)∨(32≤(s[k].toNat:Int)∧(s[k].toNat:Int)≤126) by simp only [beq_iff_eq,beq_eq_false_iff_ne];omega) with ⟨h1,h2⟩ | ⟨h1,h2⟩ | ⟨h1,h2,h3⟩ | ⟨h1,h2⟩
    · have HF:=HE.out (by show It.okc true (It.by_ s k)=false;rw [hby];rw [beq_eq_false_iff_ne] at h2;unfold It.okc;simp;omega)
      clear hby
      go_wp2
      all_goals
       go_ret
       exact ⟨ret_bool HF.out.symm,rfl⟩
    · have HF:=HN.out (by show It.okc true (It.by_ s k)=true;rw [hby];rw [beq_iff_eq] at h2;unfold It.okc;simp;omega)
      clear hby
      go_wp2
      all_goals
       go_round
       case rel=>exact ⟨k+1,by omega,by go_num,HF⟩
       case measure=>simp [intOf];omega
    · have HF:=HE.out (by show It.okc true (It.by_ s k)=false;rw [hby];rw [beq_eq_false_iff_ne] at h3;unfold It.okc;simp;omega)
      clear hby
      go_wp2
      all_goals
       go_ret
       exact ⟨ret_bool HF.out.symm,rfl⟩
    · have HF:=HN.out (by show It.okc true (It.by_ s k)=true;rw [hby];unfold It.okc;simp;omega)
      clear hby
      go_wp2
      all_goals
       go_round
       case rel=>exact ⟨k+1,by omega,by go_num,HF⟩
       case measure=>simp [intOf];omega
  · obtain rfl:k=s.size:=by omega
    have HF:Hid (v=true):=Hi (by rw [← HV.out];unfold It.prn;rw [HA.out,decide_eq_true hz1,decide_eq_true hz2];rfl)
    go_wp2
    go_ret
    exact ⟨ret_bool HF.out.symm,rfl⟩


namespace It
def cap (x:Int):Bool:=(decide (65≤x) && decide (x≤90)) || (decide (48≤x) && decide (x≤57))
def seg (s:ByteArray):Bool:=decide (1≤s.size) && decide (s.size≤8) && allN (fun i=>cap (by_ s i)) s.size
end It

set_option maxRecDepth 100000 in
set_option maxHeartbeats 1600000 in
theorem validSegment_any (s : ByteArray) (w : World) (hs : s.size ≤ 9223372036854775807) :
    Calls Tryz.prog 140 #[.string s] w fun e w'=>e=.returned (.bool (It.seg s))∧w=w':=by
 obtain ⟨v,hv⟩:∃ v,It.seg s=v:=⟨_,rfl⟩
 have HV:=Hi hv
 rw [hv]
 clear hv
 go_enter Tryz.func140,Tryz.ntmps140
 go_wp2
 go_loop [3] (fun i=>∃ k:Nat,k≤s.size∧i=.int .i64 k∧Hid (It.allN (fun i=>It.cap (It.by_ s i)) k=true)) (fun i=>s.size-(intOf i).toNat)
 case atStart=>exact ⟨0,by omega,rfl,Hi rfl⟩
 case round =>
  obtain ⟨k,hk,rfl,HA⟩:=hrel
  by_cases hlt:k<s.size
  · have hby:=It.by_at s hlt
    have HE:Hid ((fun i=>It.cap (It.by_ s i)) k=false→Hid (v=false)):=Hi fun g=>Hi (by
     rw [← HV.out];unfold It.seg;rw [It.allN_no hlt g];simp)
    have HN:Hid ((fun i=>It.cap (It.by_ s i)) k=true→Hid (It.allN (fun i=>It.cap (It.by_ s i)) (k+1)=true)):=Hi fun g=>Hi (It.allN_next HA.out g)
    rcases (show ((s[k].toNat:Int)<65∧(s[k].toNat:Int)<48)∨((s[k].toNat:Int)<65∧48≤(s[k].toNat:Int)∧(s[k].toNat:Int)≤57)∨((s[k].toNat:Int)<65∧48≤(s[k].toNat:Int)∧57<(s[k].toNat:Int))∨(65≤(s[k].toNat:Int)∧(s[k].toNat:Int)≤90)∨(65≤(s[k].toNat:Int)∧90<(s[k].toNat:Int)∧48≤(s[k].toNat:Int)∧57<(s[k].toNat:Int)) by omega) with ⟨h1,h2⟩ | ⟨h1,h2,h3⟩ | ⟨h1,h2,h3⟩ | ⟨h1,h2⟩ | ⟨h1,h2,h3,h4⟩
    · have HF:=HE.out (by show It.cap (It.by_ s k)=false;rw [hby];unfold It.cap;simp;omega)
      clear hby
      go_wp2
      all_goals
       go_ret
       exact ⟨ret_bool HF.out.symm,rfl⟩
    · have HF:=HN.out (by show It.cap (It.by_ s k)=true;rw [hby];unfold It.cap;simp;omega)
      clear hby
      go_wp2
      all_goals
       go_round
       case rel=>exact ⟨k+1,by omega,by go_num,HF⟩
       case measure=>simp [intOf];omega
    · have HF:=HE.out (by show It.cap (It.by_ s k)=false;rw [hby];unfold It.cap;simp;omega)
      clear hby
      go_wp2
      all_goals
       go_ret
       exact ⟨ret_bool HF.out.symm,rfl⟩
    · have HF:=HN.out (by show It.cap (It.by_ s k)=true;rw [hby];unfold It.cap;simp;omega)
      clear hby
      go_wp2
      all_goals
       go_round
       case rel=>exact ⟨k+1,by omega,by go_num,HF⟩
       case measure=>simp [intOf];omega
    · have HF:=HE.out (by show It.cap (It.by_ s k)=false;rw [hby];unfold It.cap;simp;omega)
      clear hby
      go_wp2
      all_goals
       go_ret
       exact ⟨ret_bool HF.out.symm,rfl⟩
  · obtain rfl:k=s.size:=by omega
    have HF:Hid (v=(decide (1≤s.size) && decide (s.size≤8))):=Hi (by rw [← HV.out];unfold It.seg;rw [HA.out,Bool.and_true])
    rcases (show (s.size<1)∨(1≤s.size∧8<s.size)∨(1≤s.size∧s.size≤8) by omega) with h1 | ⟨h1,h2⟩ | ⟨h1,h2⟩
    · have HF2:Hid (v=false):=Hi (by rw [HF.out,decide_eq_false (by omega)];rfl)
      go_wp2
      go_ret
      exact ⟨ret_bool (by first | exact HF2.out.symm | (rw [HF2.out];exact decide_eq_false (by omega)) | (rw [HF2.out];exact decide_eq_true (by omega))),rfl⟩
    · have HF2:Hid (v=false):=Hi (by rw [HF.out,decide_eq_false (show ¬ s.size≤8 by omega),Bool.and_false])
      go_wp2
      go_ret
      exact ⟨ret_bool (by first | exact HF2.out.symm | (rw [HF2.out];exact decide_eq_false (by omega)) | (rw [HF2.out];exact decide_eq_true (by omega))),rfl⟩
    · have HF2:Hid (v=true):=Hi (by rw [HF.out,decide_eq_true h1,decide_eq_true h2];rfl)
      go_wp2
      go_ret
      exact ⟨ret_bool (by first | exact HF2.out.symm | (rw [HF2.out];exact decide_eq_false (by omega)) | (rw [HF2.out];exact decide_eq_true (by omega))),rfl⟩


set_option maxRecDepth 100000 in
set_option maxHeartbeats 1600000 in
theorem rnormalized_any (s : ByteArray) (w : World) (hs : s.size ≤ 9223372036854775807) :
    Calls Tryz.prog 128 #[.string s] w fun e w'=>e=.returned (.bool (It.nrm s))∧w=w':=by
 obtain ⟨v,hv⟩:∃ v,It.nrm s=v:=⟨_,rfl⟩
 have HV:=Hi hv
 rw [hv]
 clear hv
 go_enter Tryz.func128,Tryz.ntmps128
 go_wp2
 go_loop [3] (fun i=>∃ k:Nat,k≤s.size∧i=.int .i64 k∧Hid (It.allN (It.nrmA s) k=true)) (fun i=>s.size-(intOf i).toNat)
 case atStart=>exact ⟨0,by omega,rfl,Hi rfl⟩
 case round =>
  obtain ⟨k,hk,rfl,HA⟩:=hrel
  by_cases hlt:k<s.size
  · have hby:=It.by_at s hlt
    have HE:Hid ((It.nrmA s) k=false→Hid (v=false)):=Hi fun g=>Hi (by
     rw [← HV.out];unfold It.nrm;rw [It.allN_no hlt g];simp)
    have HN:Hid ((It.nrmA s) k=true→Hid (It.allN (It.nrmA s) (k+1)=true)):=Hi fun g=>Hi (It.allN_next HA.out g)
    rcases (show (97≤(s[k].toNat:Int)∧(s[k].toNat:Int)≤122∧((s[k].toNat:Int) == 32)=false)∨((s[k].toNat:Int)<97∧48≤(s[k].toNat:Int)∧(s[k].toNat:Int)≤57∧((s[k].toNat:Int) == 32)=false)∨((s[k].toNat:Int)<97∧(s[k].toNat:Int)<48∧((s[k].toNat:Int) == 32)=false)∨((s[k].toNat:Int)<97∧48≤(s[k].toNat:Int)∧57<(s[k].toNat:Int)∧((s[k].toNat:Int) == 32)=false)∨(97≤(s[k].toNat:Int)∧122<(s[k].toNat:Int)∧48≤(s[k].toNat:Int)∧57<(s[k].toNat:Int)∧((s[k].toNat:Int) == 32)=false)∨((s[k].toNat:Int)<97∧(s[k].toNat:Int)<48∧((s[k].toNat:Int) == 32)=true) by simp only [beq_iff_eq,beq_eq_false_iff_ne];omega) with ⟨h1,h2,h3⟩ | ⟨h1,h2,h3,h4⟩ | ⟨h1,h2,h3⟩ | ⟨h1,h2,h3,h4⟩ | ⟨h1,h2,h3,h4,h5⟩ | ⟨h1,h2,h3⟩
    · have hd122:decide ((s[k].toNat:Int)≤122)=true:=decide_eq_true (by omega)
      have hne:((s[k].toNat:Int) != 32)=true:=by rw [bne,h3];rfl
      have HF:=HN.out (by rw [beq_eq_false_iff_ne] at h3;show It.nrmA s k=true;unfold It.nrmA It.ltr;rw [hby];simp;omega)
      clear hby
      go_wp2
      all_goals
       go_round
       case rel=>exact ⟨k+1,by omega,by go_num,HF⟩
       case measure=>simp [intOf];omega
    · have hd57:decide ((s[k].toNat:Int)≤57)=true:=decide_eq_true (by omega)
      have hne:((s[k].toNat:Int) != 32)=true:=by rw [bne,h4];rfl
      have HF:=HN.out (by rw [beq_eq_false_iff_ne] at h4;show It.nrmA s k=true;unfold It.nrmA It.ltr;rw [hby];simp;omega)
      clear hby
      go_wp2
      all_goals
       go_round
       case rel=>exact ⟨k+1,by omega,by go_num,HF⟩
       case measure=>simp [intOf];omega
    · have hne:((s[k].toNat:Int) != 32)=true:=by rw [bne,h3];rfl
      have HF:=HE.out (by rw [beq_eq_false_iff_ne] at h3;show It.nrmA s k=false;unfold It.nrmA It.ltr;rw [hby];simp;omega)
      clear hby
      go_wp2
      all_goals
       go_ret
       exact ⟨ret_bool HF.out.symm,rfl⟩
    · have hd57:decide ((s[k].toNat:Int)≤57)=false:=decide_eq_false (by omega)
      have hne:((s[k].toNat:Int) != 32)=true:=by rw [bne,h4];rfl
      have HF:=HE.out (by rw [beq_eq_false_iff_ne] at h4;show It.nrmA s k=false;unfold It.nrmA It.ltr;rw [hby];simp;omega)
      clear hby
      go_wp2
      all_goals
       go_ret
       exact ⟨ret_bool HF.out.symm,rfl⟩
    · have hd57:decide ((s[k].toNat:Int)≤57)=false:=decide_eq_false (by omega)
      have hd122:decide ((s[k].toNat:Int)≤122)=false:=decide_eq_false (by omega)
      have hne:((s[k].toNat:Int) != 32)=true:=by rw [bne,h5];rfl
      have HF:=HE.out (by rw [beq_eq_false_iff_ne] at h5;show It.nrmA s k=false;unfold It.nrmA It.ltr;rw [hby];simp;omega)
      clear hby
      go_wp2
      all_goals
       go_ret
       exact ⟨ret_bool HF.out.symm,rfl⟩
    · have h32:It.by_ s k=32:=by rw [hby];rw [beq_iff_eq] at h3;exact h3
      have H32:=Hi h32
      have h3n:((s[k].toNat:Int) != 32)=false:=by rw [beq_iff_eq] at h3;rw [h3];rfl
      clear h32
      rcases Nat.eq_zero_or_pos k with h0 | h0
      · have hb0:((k:Int) == 0)=true:=by rw [h0];rfl
        have HF:=HE.out (by show It.nrmA s k=false;unfold It.nrmA;rw [H32.out,decide_eq_true h0];simp)
        clear hby h0
        go_wp2
        go_ret
        exact ⟨ret_bool HF.out.symm,rfl⟩
      · have hb0:((k:Int) == 0)=false:=by rw [beq_eq_false_iff_ne];omega
        by_cases hl:k+1=s.size
        · have hb1:((k:Int) == (s.size:Int)-1)=true:=by rw [beq_iff_eq];omega
          have HF:=HE.out (by show It.nrmA s k=false;unfold It.nrmA;rw [H32.out,decide_eq_true hl];simp)
          clear hby hl
          go_wp2
          go_ret
          exact ⟨ret_bool HF.out.symm,rfl⟩
        · obtain ⟨j,rfl⟩:∃ j,k=j+1:=⟨k-1,by omega⟩
          have hb0':((j:Int)+1 == 0)=false:=by rw [beq_eq_false_iff_ne];omega
          have hb1:((j:Int)+1 == (s.size:Int)-1)=false:=by rw [beq_eq_false_iff_ne];omega
          clear hb0
          have hj:j<s.size:=by omega
          have hbj:=It.by_at s hj
          by_cases hp:(s[j].toNat:Int)=32
          · have hb2:((s[j].toNat:Int) == 32)=true:=by rw [beq_iff_eq];exact hp
            have HF:=HE.out (by show It.nrmA s (j+1)=false;unfold It.nrmA;rw [H32.out,Nat.add_sub_cancel,hbj,hp];simp)
            clear hby hl hbj hp
            go_wp2
            go_ret
            exact ⟨ret_bool HF.out.symm,rfl⟩
          · have hb2:((s[j].toNat:Int) == 32)=false:=by rw [beq_eq_false_iff_ne];exact hp
            have HF:=HN.out (by show It.nrmA s (j+1)=true;unfold It.nrmA;rw [H32.out,Nat.add_sub_cancel,hbj];simp;omega)
            clear hby hl hbj hp
            go_wp2
            go_round
            case rel=>exact ⟨j+1+1,by omega,by go_num,HF⟩
            case measure=>simp [intOf];omega
  · obtain rfl:k=s.size:=by omega
    have HF:Hid (v=decide (0<s.size)):=Hi (by rw [← HV.out];unfold It.nrm;rw [HA.out,Bool.true_and])
    rcases Nat.eq_zero_or_pos s.size with h1 | h1
    · have h1':s.size<1:=by omega
      have HF2:Hid (v=false):=Hi (by rw [HF.out];exact decide_eq_false (by omega))
      clear h1
      go_wp2
      all_goals
       go_ret
       exact ⟨ret_bool (by first | exact HF2.out.symm | (rw [HF2.out];exact decide_eq_false (by omega)) | (rw [HF2.out];exact decide_eq_true (by omega))),rfl⟩
    · have HF2:Hid (v=true):=Hi (by rw [HF.out];exact decide_eq_true (by omega))
      go_wp2
      all_goals
       go_ret
       exact ⟨ret_bool (by first | exact HF2.out.symm | (rw [HF2.out];exact decide_eq_false (by omega)) | (rw [HF2.out];exact decide_eq_true (by omega))),rfl⟩

namespace It
def eqI (xs ys:List Int):Bool:=decide (xs=ys)
def eqS (xs ys:List ByteArray):Bool:=decide (xs=ys)
def eqB (a b:ByteArray):Bool:=decide (a=b)
theorem neqB (a b:ByteArray):(a.toList != b.toList)=!eqB a b:=by
 unfold eqB
 by_cases h:a=b
 · subst h;simp
 · have:¬ (a.toList=b.toList):=fun e=>h (by
     rw [ByteArray.toList_eq,ByteArray.toList_eq] at e
     cases a;cases b;simp at e;rw [e])
   simp [h,this]
theorem beqB (a b:ByteArray):(a.toList == b.toList)=eqB a b:=by
 have:=neqB a b
 rw [bne] at this
 cases h:(a.toList == b.toList) <;> cases g:eqB a b <;> simp_all
theorem eq_at {α:Type} {xs ys:List α} (hl:xs.length=ys.length) (h:∀ i,i<xs.length→xs[i]?=ys[i]?):xs=ys:=by
 apply List.ext_getElem?
 intro i
 by_cases hi:i<xs.length
 · exact h i hi
 · rw [List.getElem?_eq_none (by omega),List.getElem?_eq_none (by omega)]
def addL (xs:List ByteArray) (d:Bool) (name:ByteArray):List ByteArray:=if d then xs ++ [name] else xs
def foldN (ps:List (Bool×ByteArray)):List ByteArray:=ps.foldl (fun xs p=>addL xs p.1 p.2) []
theorem foldN_snoc {ps:List (Bool×ByteArray)} {k:Nat} {p:Bool×ByteArray} (h:ps[k]?=some p):foldN (ps.take (k+1))=addL (foldN (ps.take k)) p.1 p.2:=by
 unfold foldN;rw [List.take_add_one,h,List.foldl_append];rfl
theorem addL_len (xs:List ByteArray) (d:Bool) (name:ByteArray):(addL xs d name).length≤xs.length+1:=by unfold addL;split <;> simp
theorem addL_yes (xs:List ByteArray) (name:ByteArray):addL xs true name=xs ++ [name]:=rfl
def pairs (a b:Item):List (Bool×ByteArray):=[(a.id != b.id,⟨#[73,100]⟩),(a.ver != b.ver,⟨#[86,101,114,115,105,111,110]⟩),(a.kind != b.kind,⟨#[75,105,110,100]⟩),(!eqB a.stem b.stem,⟨#[83,116,101,109]⟩),(!eqS a.opts b.opts,⟨#[79,112,116,105,111,110,115]⟩),(!eqI a.chs b.chs,⟨#[67,104,111,105,99,101,115]⟩),(a.value != b.value,⟨#[86,97,108,117,101]⟩),(a.tol != b.tol,⟨#[84,111,108]⟩),(!eqS a.texts b.texts,⟨#[84,101,120,116,115]⟩),(a.pts != b.pts,⟨#[80,111,105,110,116,115]⟩),(!eqB a.cont b.cont,⟨#[67,111,110,116,101,110,116]⟩),(a.fam != b.fam,⟨#[70,97,109,105,108,121]⟩),(a.set_ != b.set_,⟨#[83,101,116]⟩),(a.wrd != b.wrd,⟨#[87,111,114,100,115]⟩),(a.sec != b.sec,⟨#[83,101,99,111,110,100,115]⟩),(!eqI a.assets b.assets,⟨#[65,115,115,101,116,115]⟩),(a.rub != b.rub,⟨#[82,117,98,114,105,99]⟩)]
def diff (a b:Item):List ByteArray:=foldN (pairs a b)
theorem foldN_le:∀ (ps:List (Bool×ByteArray)),(foldN ps).length≤ps.length:=by
 intro ps
 suffices h:∀ (ps:List (Bool×ByteArray)) (xs:List ByteArray),(ps.foldl (fun xs p=>addL xs p.1 p.2) xs).length≤xs.length+ps.length by have:=h ps [];simpa [foldN] using this
 intro ps
 induction ps with
 | nil=>intro xs;simp
 | cons p ps ih=>intro xs;rw [List.foldl_cons];have:=ih (addL xs p.1 p.2);have:=addL_len xs p.1 p.2;simp only [List.length_cons];omega
end It
theorem hbeq_of (a b:ByteArray) (h:a≠b):(a.toList == b.toList)=false:=by rw [It.beqB];simp [It.eqB,h]
set_option maxRecDepth 100000 in
set_option maxHeartbeats 3200000 in
theorem rsameInts_any (X : Option Addr) (xc : Nat) (Y : Option Addr) (yc : Nat) (xs ys : List Int) (w : World) (ha : SlI w X xs) (hb : SlI w Y ys) (hl1 : xs.length ≤ 9223372036854775807) (hl2 : ys.length ≤ 9223372036854775807) :
    Calls Tryz.prog 117 #[.slice X xs.length xc,.slice Y ys.length yc] w fun e w'=>e=.returned (.bool (It.eqI xs ys))∧Ext w w':=by
 have HA:=Hi ha
 have HB:=Hi hb
 clear ha hb
 by_cases hln:xs.length=ys.length
 case neg =>
  have HF:Hid (It.eqI xs ys=false):=Hi (decide_eq_false (fun e=>hln (by rw [e])))
  have hne:((xs.length:Int) != (ys.length:Int))=true:=by rw [bne_iff_ne];omega
  clear hln
  go_enter Tryz.func117,Tryz.ntmps117
  go_wp2
  go_ret
  exact ⟨ret_bool HF.out.symm,Ext.refl _⟩
 have HL:=Hi hln
 have hne:((xs.length:Int) != (ys.length:Int))=false:=by rw [bne_eq_false_iff_eq];omega
 have hle:xs.length≤ys.length:=by omega
 clear hln
 go_enter Tryz.func117,Tryz.ntmps117
 go_wp2
 go_loopw [13] (fun i wr=>∃ k:Nat,k≤xs.length∧i=.int .i64 k∧Hid (∀ i,i<k→xs[i]?=ys[i]?)∧Ext w wr) (fun i _=>xs.length-(intOf i).toNat)
 case atStart=>exact ⟨0,by omega,rfl,Hi (fun i hi=>by omega),Ext.refl _⟩
 case round =>
  obtain ⟨k,hk,rfl,HP,he⟩:=hrel
  by_cases hlt:k<xs.length
  · have hlt2:k<ys.length:=by omega
    obtain ⟨gb,go,x,rfl,hgb,hx,x0⟩:=(HA.out.ext he).at_ hlt
    obtain ⟨fb,fo,y,rfl,hfb,hy,y0⟩:=(HB.out.ext he).at_ hlt2
    have ki0:(0:Int)≤(k:Int):=by omega
    have ki1:(k:Int)<(xs.length:Int):=by omega
    have ki2:(k:Int)<(ys.length:Int):=by omega
    have HX:=Hi hx
    have HY:=Hi hy
    clear hx hy
    by_cases hxy:x=y
    · have HN:Hid (∀ i,i<k+1→xs[i]?=ys[i]?):=Hi fun i hi=>by
        rcases Nat.lt_or_ge i k with g | g
        · exact HP.out i g
        · obtain rfl:i=k:=by omega
          rw [HX.out,HY.out,hxy]
      subst hxy
      have hq:(x != x)=false:=by simp
      go_wp2
      go_quiet (fail)
      go_wp2
      go_roundw
      case rel=>exact ⟨k+1,by omega,by go_num,HN,he.drewN _⟩
      case measure=>simp [intOf];omega
    · have HF:Hid (It.eqI xs ys=false):=Hi (decide_eq_false (fun e=>hxy (by
        have h1:=HX.out
        rw [e,HY.out] at h1
        exact (Option.some.inj h1).symm)))
      have hq:((x != y)=true):=by rw [bne_iff_ne];exact hxy
      clear hxy
      go_wp2
      go_quiet (fail)
      go_wp2
      go_ret
      exact ⟨ret_bool HF.out.symm,he.drewN _⟩
  · have HF:Hid (It.eqI xs ys=true):=Hi (decide_eq_true (It.eq_at HL.out (fun i hi=>HP.out i (by omega))))
    go_wp2
    go_ret
    exact ⟨ret_bool HF.out.symm,he⟩


set_option maxRecDepth 100000 in
set_option maxHeartbeats 3200000 in
theorem rsameStrings_any (X : Option Addr) (xc : Nat) (Y : Option Addr) (yc : Nat) (xs ys : List ByteArray) (w : World) (ha : SlS w X xs) (hb : SlS w Y ys) (hl1 : xs.length ≤ 9223372036854775807) (hl2 : ys.length ≤ 9223372036854775807) :
    Calls Tryz.prog 116 #[.slice X xs.length xc,.slice Y ys.length yc] w fun e w'=>e=.returned (.bool (It.eqS xs ys))∧Ext w w':=by
 have HA:=Hi ha
 have HB:=Hi hb
 clear ha hb
 by_cases hln:xs.length=ys.length
 case neg =>
  have HF:Hid (It.eqS xs ys=false):=Hi (decide_eq_false (fun e=>hln (by rw [e])))
  have hne:((xs.length:Int) != (ys.length:Int))=true:=by rw [bne_iff_ne];omega
  clear hln
  go_enter Tryz.func116,Tryz.ntmps116
  go_wp2
  go_ret
  exact ⟨ret_bool HF.out.symm,Ext.refl _⟩
 have HL:=Hi hln
 have hne:((xs.length:Int) != (ys.length:Int))=false:=by rw [bne_eq_false_iff_eq];omega
 have hle:xs.length≤ys.length:=by omega
 clear hln
 go_enter Tryz.func116,Tryz.ntmps116
 go_wp2
 go_loopw [13] (fun i wr=>∃ k:Nat,k≤xs.length∧i=.int .i64 k∧Hid (∀ i,i<k→xs[i]?=ys[i]?)∧Ext w wr) (fun i _=>xs.length-(intOf i).toNat)
 case atStart=>exact ⟨0,by omega,rfl,Hi (fun i hi=>by omega),Ext.refl _⟩
 case round =>
  obtain ⟨k,hk,rfl,HP,he⟩:=hrel
  by_cases hlt:k<xs.length
  · have hlt2:k<ys.length:=by omega
    obtain ⟨gb,go,rfl,hgb,x0⟩:=(HA.out.ext he).at_ hlt
    obtain ⟨fb,fo,rfl,hfb,y0⟩:=(HB.out.ext he).at_ hlt2
    obtain ⟨x,hx'⟩:∃ x,xs[k]=x:=⟨_,rfl⟩
    obtain ⟨y,hy'⟩:∃ y,ys[k]=y:=⟨_,rfl⟩
    have hx:xs[k]?=some x:=by rw [List.getElem?_eq_getElem hlt,hx']
    have hy:ys[k]?=some y:=by rw [List.getElem?_eq_getElem hlt2,hy']
    rw [hx'] at x0
    rw [hy'] at y0
    clear hx' hy'
    have ki0:(0:Int)≤(k:Int):=by omega
    have ki1:(k:Int)<(xs.length:Int):=by omega
    have ki2:(k:Int)<(ys.length:Int):=by omega
    have HX:=Hi hx
    have HY:=Hi hy
    clear hx hy
    by_cases hxy:x=y
    · have HN:Hid (∀ i,i<k+1→xs[i]?=ys[i]?):=Hi fun i hi=>by
        rcases Nat.lt_or_ge i k with g | g
        · exact HP.out i g
        · obtain rfl:i=k:=by omega
          rw [HX.out,HY.out,hxy]
      subst hxy
      have hq:(x.toList == x.toList)=true:=by simp
      go_wp2
      go_quiet (fail)
      go_wp2
      go_roundw
      case rel=>exact ⟨k+1,by omega,by go_num,HN,he.drewN _⟩
      case measure=>simp [intOf];omega
    · have HF:Hid (It.eqS xs ys=false):=Hi (decide_eq_false (fun e=>hxy (by
        have h1:=HX.out
        rw [e,HY.out] at h1
        exact (Option.some.inj h1).symm)))
      have hq:((x.toList == y.toList)=false):=by exact hbeq_of _ _ hxy
      clear hxy
      go_wp2
      go_quiet (fail)
      go_wp2
      go_ret
      exact ⟨ret_bool HF.out.symm,he.drewN _⟩
  · have HF:Hid (It.eqS xs ys=true):=Hi (decide_eq_true (It.eq_at HL.out (fun i hi=>HP.out i (by omega))))
    go_wp2
    go_ret
    exact ⟨ret_bool HF.out.symm,he⟩


theorem Tryz.infoStr:(Tryz.prog.info? 9).map (fun i=>(i.zero,i.size,i.bytes))=some (some (.string ⟨#[]⟩),1,16):=by kernel_rfl
def RowS (base:Nat) (xs:List ByteArray) (w:World) (v:Value):Prop:=w.ownsRow base 9 1 v xs.length (xs.map Value.string)
theorem RowS.sl {base:Nat} {xs:List ByteArray} {w:World} {v:Value} (h:RowS base xs w v):∃ A c,v=.slice A xs.length c∧xs.length≤c∧c≤maxLen∧SlS w A xs:=by
 have h':w.ownsRow base 9 1 v xs.length (xs.map fun s=>[Value.string s]).flatten:=by
  have e:(xs.map fun s=>[Value.string s]).flatten=xs.map Value.string:=by clear h;induction xs with | nil=>rfl | cons x xs ih=>simp only [List.map_cons,List.flatten_cons,ih];rfl
  rw [e];exact h
 obtain ⟨A,c,h1,h2,h3,h4⟩:=Sl.of_own (xs:=xs.map fun s=>[Value.string s]) (fun c hc=>by obtain ⟨s,_,rfl⟩:=List.mem_map.1 hc;rfl) (by simp) h'
 rw [List.length_map] at h1 h2
 exact ⟨A,c,h1,h2,h3,h4⟩
set_option maxRecDepth 100000 in
set_option maxHeartbeats 1600000 in
theorem add_any (W0 : World) (base : Nat) (hB : W0.heap.size ≤ base) (v : Value) (xs : List ByteArray) (d : Bool) (name : ByteArray) (w : World) (hX : Ext W0 w) (hb : base ≤ w.heap.size) (hn : xs.length ≤ 1000) (h : RowS base xs w v) :
    Calls Tryz.prog 115 #[v,.bool d,.string name] w fun e w'=>∃ v',e=.returned v'∧RowS base (It.addL xs d name) w' v'∧Ext W0 w':=by
 cases d with
 | false =>
  go_enter Tryz.func115,Tryz.ntmps115
  go_wp2
  go_ret
  exact ⟨v,rfl,h,hX⟩
 | true =>
  obtain ⟨i0,hi0,hz0,hz1,hz2⟩:=info_parts Tryz.infoStr
  obtain ⟨A,c,rfl⟩:=own_form h
  have HO:=Hi h
  clear h
  obtain ⟨n,hxn⟩:∃ n,xs.length=n:=⟨_,rfl⟩
  have HN:=Hi hxn
  have HO2:Hid (w.ownsRow base 9 1 (.slice A n c) n (xs.map Value.string)):=Hi (by rw [← hxn];exact HO.out)
  rw [hxn] at hn ⊢
  clear hxn HO
  go_enter Tryz.func115,Tryz.ntmps115
  go_wp2_with (at_builtin;refine wpList_append_lies _ rfl _ _ 42 rfl base 9 i0 (.string ⟨#[]⟩) 1 16 Tryz.underlying42 hi0 hz0 hz1 hz2 rfl (by decide) _ _ _ rfl (HO2.out.alloc _) ⟨w.heap.size,0,none⟩ 1 1 [.string name] rfl rfl (cell_one_new _ _ _) (by simp [Value.oneCell']) (by decide) (by unfold maxLen;omega) (by omega) (by simp;omega) (w.heap.size+1) (by simp) ?_;intro gg cap w2 hown2 hgrow2 hat hlt2)
  have HO3:=Hi hown2
  have he2:Ext W0 w2:=(hX.alloc _).grown hgrow2 (fun q hq=>Nat.le_trans hB (own_ge HO2.out q hq))
  clear hown2
  go_wp2
  go_ret
  refine ⟨_,rfl,?_,he2⟩
  unfold RowS
  rw [It.addL_yes,List.length_append,List.map_append,HN.out]
  exact HO3.out
theorem add_to (W0 : World) (base : Nat) (hB : W0.heap.size ≤ base) (v : Value) {xs : List ByteArray} (d : Bool) (name : ByteArray) {ys : List ByteArray} (hy : It.addL xs d name = ys) (w : World) (hX : Ext W0 w) (hb : base ≤ w.heap.size) (hn : xs.length ≤ 1000) (h : RowS base xs w v) :
    Calls Tryz.prog 115 #[v,.bool d,.string name] w fun e w'=>∃ v',e=.returned v'∧RowS base ys w' v'∧Ext W0 w':=by
 subst hy;exact add_any W0 base hB v xs d name w hX hb hn h

inductive Nd where
 | mk (tag kind n:Int) (s:ByteArray) (kids:List Nd):Nd
instance:Inhabited Nd:=⟨.mk 0 0 0 ⟨#[]⟩ []⟩
def Nd.tag:Nd→Int | .mk t _ _ _ _=>t
def Nd.kind:Nd→Int | .mk _ k _ _ _=>k
def Nd.n:Nd→Int | .mk _ _ n _ _=>n
def Nd.s:Nd→ByteArray | .mk _ _ _ s _=>s
def Nd.kids:Nd→List Nd | .mk _ _ _ _ l=>l
def ndc (x:Nd) (L:Option Addr×Nat):List Value:=[.int .i64 x.tag,.int .i64 x.kind,.int .i64 x.n,.string x.s,.slice L.1 x.kids.length L.2]
def nda (x:Nd) (L:Option Addr×Nat):Value:=.agg #[.int .i64 x.tag,.int .i64 x.kind,.int .i64 x.n,.string x.s,.slice L.1 x.kids.length L.2]
def KidsAt (B lo:Nat):Nat→World→Option Addr×Nat→List Nd→Prop
 | 0,_,L,ks=>ks=[]∧L.2≤maxLen
 | d + 1, w, L, ks => ks.length ≤ B ∧ ks.length ≤ L.2 ∧ L.2 ≤ maxLen ∧ (ks = [] ∨ ∃ (b off : Nat) (Ls : List (Option Addr × Nat)), L.1 = some ⟨b, off, none⟩ ∧ lo ≤ b ∧ b < w.heap.size ∧ Ls.length = ks.length ∧
     ∀ i x M,ks[i]?=some x→Ls[i]?=some M→(∀ j v,(ndc x M)[j]?=some v→w.cell? ⟨b,off+(i*5+j),none⟩=some v)∧KidsAt B lo d w M x.kids)
theorem KidsAt.ext {B lo:Nat}:∀ {d:Nat} {w w':World} {L:Option Addr×Nat} {ks:List Nd},KidsAt B lo d w L ks→Ext w w'→KidsAt B lo d w' L ks
 | 0,_,_,_,_,h,_=>h
 | d+1,w,w',L,ks,⟨h1,h2,h3,h⟩,he=>by
  refine ⟨h1,h2,h3,?_⟩
  rcases h with h | ⟨b,off,Ls,e,hl,hb,hL,hc⟩
  · exact Or.inl h
  · exact Or.inr ⟨b,off,Ls,e,hl,Nat.lt_of_lt_of_le hb he.size,hL,fun i x M hx hM=>⟨fun j v hv=>he.keep ((hc i x M hx hM).1 j v hv),(hc i x M hx hM).2.ext he⟩⟩
theorem KidsAt.setCell {B lo:Nat}:∀ {d:Nat} {w:World} {L:Option Addr×Nat} {ks:List Nd} {p:Addr} {v:Value},KidsAt B lo d w L ks→p.block<lo→KidsAt B lo d (w.setCell p v) L ks
 | 0,_,_,_,_,_,h,_=>h
 | d+1,w,L,ks,p,v,⟨h1,h2,h3,h⟩,hp=>by
  refine ⟨h1,h2,h3,?_⟩
  rcases h with h | ⟨b,off,Ls,e,hl,hb,hL,hc⟩
  · exact Or.inl h
  · refine Or.inr ⟨b,off,Ls,e,hl,by simpa using hb,hL,fun i x M hx hM=>⟨fun j u hu=>?_,(hc i x M hx hM).2.setCell hp⟩⟩
    rw [World.cell?_of_block (w:=w) (w':=w.setCell p v) (Below.heap_setCell _ _ _ _ (show b≠p.block by omega))]
    exact (hc i x M hx hM).1 j u hu
theorem KidsAt.lower {B lo lo':Nat} (hlo:lo' ≤ lo):∀ {d:Nat} {w:World} {L:Option Addr×Nat} {ks:List Nd},KidsAt B lo d w L ks→KidsAt B lo' d w L ks
 | 0,_,_,_,h=>h
 | d+1,w,L,ks,⟨h1,h2,h3,h⟩=>by
  refine ⟨h1,h2,h3,?_⟩
  rcases h with h | ⟨b,off,Ls,e,hl,hb,hL,hc⟩
  · exact Or.inl h
  · exact Or.inr ⟨b,off,Ls,e,Nat.le_trans hlo hl,hb,hL,fun i x M hx hM=>⟨(hc i x M hx hM).1,(hc i x M hx hM).2.lower hlo⟩⟩
theorem KidsAt.nil (B lo d:Nat) (w:World) (A:Option Addr):KidsAt B lo d w (A,0) []:=by
 cases d with
 | zero=>exact ⟨rfl,Nat.zero_le _⟩
 | succ d=>exact ⟨Nat.zero_le _,Nat.zero_le _,Nat.zero_le _,Or.inl rfl⟩
theorem KidsAt.few {B lo d:Nat} {w:World} {L:Option Addr×Nat} {ks:List Nd} (h:KidsAt B lo d w L ks):ks.length≤B:=by
 cases d with
 | zero=>obtain ⟨rfl,_⟩:=h;exact Nat.zero_le _
 | succ d=>exact h.1
theorem KidsAt.at_ {B lo d : Nat} {w : World} {L : Option Addr × Nat} {ks : List Nd} (h : KidsAt B lo (d + 1) w L ks) {i : Nat} {x : Nd} (hi : ks[i]? = some x) :
    ∃ (b off:Nat) (M:Option Addr×Nat),L.1=some ⟨b,off,none⟩∧b<w.heap.size∧w.cell? ⟨b,off+i*5,none⟩=some (.int .i64 x.tag)∧w.cell? ⟨b,off+i*5+1,none⟩=some (.int .i64 x.kind)∧w.cell? ⟨b,off+i*5+1+1,none⟩=some (.int .i64 x.n) ∧
     w.cell? ⟨b,off+i*5+1+1+1,none⟩=some (.string x.s)∧w.cell? ⟨b,off+i*5+1+1+1+1,none⟩=some (.slice M.1 x.kids.length M.2)∧KidsAt B lo d w M x.kids:=by
 obtain ⟨_,_,_,h⟩:=h
 rcases h with h | ⟨b,off,Ls,e,hl,hb,hL,hc⟩
 · subst h;simp at hi
 · have hlt:i<ks.length:=by
     rcases Nat.lt_or_ge i ks.length with g | g
     · exact g
     · rw [List.getElem?_eq_none g] at hi;cases hi
   have hM:Ls[i]?=some (Ls[i]'(by omega)):=List.getElem?_eq_getElem (by omega)
   obtain ⟨h1,h2⟩:=hc i x _ hi hM
   exact ⟨b,off,_,e,hb,h1 0 _ rfl,h1 1 _ rfl,h1 2 _ rfl,h1 3 _ rfl,h1 4 _ rfl,h2⟩
def RowN (B d:Nat) (w:World) (g n k:Nat) (ks:List Nd):Prop :=
 (∃ f,w.rowIs g 52 (n*5) f)∧∃ Ls:List (Option Addr×Nat),Ls.length=k∧∀ i x M,ks[i]?=some x→Ls[i]?=some M→(∀ j v,(ndc x M)[j]?=some v→w.cell? ⟨g,i*5+j,none⟩=some v)∧KidsAt B (g+1) d w M x.kids
theorem RowN.lt {B d:Nat} {w:World} {g n k:Nat} {ks:List Nd} (h:RowN B d w g n k ks):g<w.heap.size:=by
 obtain ⟨⟨f,hf⟩,_⟩:=h
 exact hf.lt
theorem RowN.ext {B d:Nat} {w w':World} {g n k:Nat} {ks:List Nd} (h:RowN B d w g n k ks) (he:Ext w w'):RowN B d w' g n k ks:=by
 have hlt:=h.lt
 obtain ⟨⟨f,hf⟩,Ls,hL,hc⟩:=h
 exact ⟨⟨f,hf.of_block (Below.block he g hlt)⟩,Ls,hL,fun i x M hx hM=>⟨fun j v hv=>he.keep ((hc i x M hx hM).1 j v hv),(hc i x M hx hM).2.ext he⟩⟩
theorem RowN.cells {B d : Nat} {w : World} {g n k : Nat} {ks : List Nd} (h : RowN B d w g n k ks) (hk : k < n) : ∃ v0 v1 v2 v3 v4 : Value,
    (w.cell? ⟨g,k*5,none⟩=some v0∧w.cell? ⟨g,k*5+1,none⟩=some v1∧w.cell? ⟨g,k*5+1+1,none⟩=some v2∧w.cell? ⟨g,k*5+1+1+1,none⟩=some v3∧w.cell? ⟨g,k*5+1+1+1+1,none⟩=some v4)∧(∀ i,w.frozen? ⟨g,i,none⟩=false):=by
 obtain ⟨⟨f,hf⟩,_⟩:=h
 exact ⟨_,_,_,_,_,⟨hf.cell (by omega),hf.cell (by omega),hf.cell (by omega),hf.cell (by omega),hf.cell (by omega)⟩,fun i=>hf.frozen i⟩
theorem RowN.put {B d:Nat} {w:World} {g n k:Nat} {ks:List Nd} (h:RowN B d w g n k ks) {o:Nat} (ho:k*5≤o) (v:Value):RowN B d (w.setCell ⟨g,o,none⟩ v) g n k ks:=by
 obtain ⟨⟨f,hf⟩,Ls,hL,hc⟩:=h
 refine ⟨⟨_,hf.set o v⟩,Ls,hL,fun i x M hx hM=>⟨fun j u hu=>?_,(hc i x M hx hM).2.setCell (by simp)⟩⟩
 have hik:i<k:=by
  rcases Nat.lt_or_ge i Ls.length with g | g
  · omega
  · rw [List.getElem?_eq_none g] at hM;cases hM
 have hj:j<5:=by
  rcases Nat.lt_or_ge j (ndc x M).length with g | g
  · exact g
  · rw [List.getElem?_eq_none g] at hu;cases hu
 rw [World.cell?_setCell_other _ _ _ _ (by simp <;> omega)]
 exact (hc i x M hx hM).1 j u hu
theorem RowN.next {B d:Nat} {w:World} {g n k:Nat} {ks:List Nd} (h:RowN B d w g n k ks) {x:Nd} {M:Option Addr×Nat} (hx:ks[k]?=some x) (hc:∀ j v,(ndc x M)[j]?=some v→w.cell? ⟨g,k*5+j,none⟩=some v) (hM:KidsAt B (g+1) d w M x.kids):RowN B d w g n (k+1) ks:=by
 obtain ⟨hf,Ls,hL,hcs⟩:=h
 refine ⟨hf,Ls ++ [M],by simp [hL],fun i y N hy hN=>?_⟩
 rcases Nat.lt_or_ge i k with g | g
 · rw [List.getElem?_append_left (by omega)] at hN
   exact hcs i y N hy hN
 · rw [List.getElem?_append_right (by omega)] at hN
   have e:i=k:=by
    rcases Nat.eq_zero_or_pos (i-Ls.length) with e | e
    · omega
    · rw [List.getElem?_eq_none (by simp;omega)] at hN;cases hN
   subst e
   rw [hx] at hy
   obtain rfl:=Option.some.inj hy
   rw [hL,Nat.sub_self] at hN
   obtain rfl:M=N:=by simpa using hN
   exact ⟨hc,hM⟩
theorem RowN.done {B d lo:Nat} {w:World} {g n:Nat} {ks:List Nd} (h:RowN B d w g n ks.length ks) (hn:ks.length=n) (hB:n≤B) (hm:n≤maxLen) (hlo:lo≤g):KidsAt B lo (d+1) w (some ⟨g,0,none⟩,n) ks:=by
 have hlt:=h.lt
 obtain ⟨_,Ls,hL,hc⟩:=h
 refine ⟨by omega,by simp only;omega,hm,Or.inr ⟨g,0,Ls,rfl,hlo,hlt,hL,fun i x M hx hM=>⟨fun j v hv=>?_,((hc i x M hx hM).2).lower (by omega)⟩⟩⟩
 rw [Nat.zero_add]
 exact (hc i x M hx hM).1 j v hv
theorem RowN.start {B d:Nat} {w:World} {g n:Nat} {f:Nat→Value} (h:w.rowIs g 52 (n*5) f) (ks:List Nd):RowN B d w g n 0 ks :=
 ⟨⟨f,h⟩,[],rfl,fun i x M _ hM=>by simp at hM⟩

theorem Tryz.infoNd:(Tryz.prog.info? 52).map (fun i=>(i.zero,i.size,i.bytes))=some (some (.agg #[.int .i64 0,.int .i64 0,.int .i64 0,.string ⟨#[]⟩,.slice none 0 0]),5,64):=by kernel_rfl
theorem make_nd (n : Nat) (hn : n ≤ 1000000) (w : World) :
    (Instr.makeSlice 50 (.int .i64 (n:Int)) (.int .i64 (n:Int))).run Tryz.prog w=.ok (.slice (some ⟨w.heap.size,0,none⟩) n n) (w.alloc (.cells (madeCells #[.int .i64 0,.int .i64 0,.int .i64 0,.string ⟨#[]⟩,.slice none 0 0] (n*5)) 52)):=by
 obtain ⟨i,hi,hzz⟩:=Option.map_eq_some_iff.1 Tryz.infoNd
 simp only [Prod.mk.injEq] at hzz
 obtain ⟨hz,hs,hb⟩:=hzz
 have hr:=run_make (P:=Tryz.prog) w 50 52 i _ Tryz.underlying50 hi hz .i64 .i64 n n (by omega) (Int.le_refl _) (by rw [hb];omega) (by omega)
 simp only [Int.toNat_natCast,hs] at hr
 exact hr
theorem rowN_made (B d:Nat) (w:World) (n:Nat) (ks:List Nd):RowN B d (w.alloc (.cells (madeCells #[.int .i64 0,.int .i64 0,.int .i64 0,.string ⟨#[]⟩,.slice none 0 0] (n*5)) 52)) w.heap.size n 0 ks:=by
 have h:=World.rowIs_alloc w (madeCells #[.int .i64 0,.int .i64 0,.int .i64 0,.string ⟨#[]⟩,.slice none 0 0] (n*5)) 52 (fun i=>(madeCells #[.int .i64 0,.int .i64 0,.int .i64 0,.string ⟨#[]⟩,.slice none 0 0] (n*5))[i]!) (fun i hi=>by rw [getElem!_pos _ i hi];exact Array.getElem?_eq_getElem hi)
 rw [size_madeCells] at h
 exact RowN.start h ks

set_option maxRecDepth 100000 in
set_option maxHeartbeats 1600000 in
theorem int_any (tag n:Int) (w:World):Calls Tryz.prog 51 #[.int .i64 tag,.int .i64 n] w fun e w'=>e=.returned (nda (.mk tag 1 n ⟨#[]⟩ []) (none,0))∧Ext w w':=by
 go_enter Tryz.func51,Tryz.ntmps51
 go_wp2
 refine bodyPost_ret (v:=.agg #[.int .i64 tag,.int .i64 1,.int .i64 n,.string ⟨#[]⟩,.slice none 0 0]) (by simp [results,Tryz.results51,go_sem]) rfl ⟨rfl,?_⟩
 with_reducible exact (Ext.refl _).alloc _
set_option maxRecDepth 100000 in
set_option maxHeartbeats 1600000 in
theorem string_any (tag:Int) (s:ByteArray) (w:World):Calls Tryz.prog 52 #[.int .i64 tag,.string s] w fun e w'=>e=.returned (nda (.mk tag 2 0 s []) (none,0))∧Ext w w':=by
 go_enter Tryz.func52,Tryz.ntmps52
 go_wp2
 refine bodyPost_ret (v:=.agg #[.int .i64 tag,.int .i64 2,.int .i64 0,.string s,.slice none 0 0]) (by simp [results,Tryz.results52,go_sem]) rfl ⟨rfl,?_⟩
 with_reducible exact (Ext.refl _).alloc _

def RetKids (B lo d:Nat) (ks:List Nd) (e:Ending) (w':World):Prop:=∃ M:Option Addr×Nat,e=.returned (.slice M.1 ks.length M.2)∧KidsAt B lo d w' M ks
theorem RowN.put5' {B d : Nat} {w : World} {g n k : Nat} {ks : List Nd} (h : RowN B d w g n k ks) (hk : k < n) (x : Nd) (M : Option Addr × Nat) :
    RowN B d (((((w.setCell ⟨g,k*5,none⟩ (.int .i64 x.tag)).setCell ⟨g,k*5+1,none⟩ (.int .i64 x.kind)).setCell ⟨g,k*5+2,none⟩ (.int .i64 x.n)).setCell ⟨g,k*5+3,none⟩ (.string x.s)).setCell ⟨g,k*5+4,none⟩ (.slice M.1 x.kids.length M.2)) g n k ks ∧
    ∀ j v,(ndc x M)[j]?=some v→(((((w.setCell ⟨g,k*5,none⟩ (.int .i64 x.tag)).setCell ⟨g,k*5+1,none⟩ (.int .i64 x.kind)).setCell ⟨g,k*5+2,none⟩ (.int .i64 x.n)).setCell ⟨g,k*5+3,none⟩ (.string x.s)).setCell ⟨g,k*5+4,none⟩ (.slice M.1 x.kids.length M.2)).cell? ⟨g,k*5+j,none⟩=some v:=by
 have h1:=h.put (o:=k*5) (by omega) (.int .i64 x.tag)
 have h2:=h1.put (o:=k*5+1) (by omega) (.int .i64 x.kind)
 have h3:=h2.put (o:=k*5+2) (by omega) (.int .i64 x.n)
 have h4:=h3.put (o:=k*5+3) (by omega) (.string x.s)
 have h5:=h4.put (o:=k*5+4) (by omega) (.slice M.1 x.kids.length M.2)
 refine ⟨h5,fun j v hv=>?_⟩
 obtain ⟨⟨f,hf⟩,_⟩:=h
 have r1:=hf.set (k*5) (.int .i64 x.tag)
 have r2:=r1.set (k*5+1) (.int .i64 x.kind)
 have r3:=r2.set (k*5+2) (.int .i64 x.n)
 have r4:=r3.set (k*5+3) (.string x.s)
 have r5:=r4.set (k*5+4) (.slice M.1 x.kids.length M.2)
 have hj:j<5:=by
  rcases Nat.lt_or_ge j (ndc x M).length with g | g
  · exact g
  · rw [List.getElem?_eq_none g] at hv;cases hv
 rw [r5.cell (show k*5+j<n*5 by omega)]
 rw [← hv]
 rcases (show j=0∨j=1∨j=2∨j=3∨j=4 by omega) with rfl | rfl | rfl | rfl | rfl
 · rw [if_neg (by omega),if_neg (by omega),if_neg (by omega),if_neg (by omega),if_pos (by omega)];rfl
 · rw [if_neg (by omega),if_neg (by omega),if_neg (by omega),if_pos (by omega)];rfl
 · rw [if_neg (by omega),if_neg (by omega),if_pos (by omega)];rfl
 · rw [if_neg (by omega),if_pos (by omega)];rfl
 · rw [if_pos (by omega)];rfl
theorem RowN.put5 {B d : Nat} {w : World} {g n k : Nat} {ks : List Nd} (h : RowN B d w g n k ks) (hk : k < n) (x : Nd) (M : Option Addr × Nat) (Z : Obj) :
    RowN B d ((((((w.setCell ⟨g,k*5,none⟩ (.int .i64 x.tag)).setCell ⟨g,k*5+1,none⟩ (.int .i64 x.kind)).setCell ⟨g,k*5+2,none⟩ (.int .i64 x.n)).setCell ⟨g,k*5+3,none⟩ (.string x.s)).setCell ⟨g,k*5+4,none⟩ (.slice M.1 x.kids.length M.2)).alloc Z) g n k ks ∧
    ∀ j v,(ndc x M)[j]?=some v→((((((w.setCell ⟨g,k*5,none⟩ (.int .i64 x.tag)).setCell ⟨g,k*5+1,none⟩ (.int .i64 x.kind)).setCell ⟨g,k*5+2,none⟩ (.int .i64 x.n)).setCell ⟨g,k*5+3,none⟩ (.string x.s)).setCell ⟨g,k*5+4,none⟩ (.slice M.1 x.kids.length M.2)).alloc Z).cell? ⟨g,k*5+j,none⟩=some v:=by
 obtain ⟨h1,h2⟩:=h.put5' hk x M
 exact ⟨h1.ext ((Ext.refl _).alloc _),fun j v hv=>((Ext.refl _).alloc Z).keep (h2 j v hv)⟩
theorem RowN.leaf {B d : Nat} {w : World} {g n k : Nat} {ks : List Nd} (h : RowN B d w g n k ks) (hk : k < n) {t q m : Int} {s : ByteArray} (hx : ks[k]? = some (.mk t q m s [])) :
    RowN B d (((((w.setCell ⟨g,k*5,none⟩ (.int .i64 t)).setCell ⟨g,k*5+1,none⟩ (.int .i64 q)).setCell ⟨g,k*5+2,none⟩ (.int .i64 m)).setCell ⟨g,k*5+3,none⟩ (.string s)).setCell ⟨g,k*5+4,none⟩ (.slice none 0 0)) g n (k+1) ks:=by
 obtain ⟨h1,h2⟩:=h.put5' hk (.mk t q m s []) (none,0)
 exact h1.next hx h2 (KidsAt.nil _ _ _ _ _)
def RetNd (B lo d:Nat) (x:Nd) (e:Ending) (w':World):Prop:=∃ M:Option Addr×Nat,e=.returned (nda x M)∧KidsAt B lo d w' M x.kids
theorem ext_put5 {w wr : World} (he : Ext w wr) (o0 o1 o2 o3 o4 : Nat) (v0 v1 v2 v3 v4 : Value) (Z : Obj) :
    Ext w ((((((wr.setCell ⟨w.heap.size,o0,none⟩ v0).setCell ⟨w.heap.size,o1,none⟩ v1).setCell ⟨w.heap.size,o2,none⟩ v2).setCell ⟨w.heap.size,o3,none⟩ v3).setCell ⟨w.heap.size,o4,none⟩ v4).alloc Z) :=
 (((((he.setCell (Nat.le_refl _) _).setCell (Nat.le_refl _) _).setCell (Nat.le_refl _) _).setCell (Nat.le_refl _) _).setCell (Nat.le_refl _) _).alloc _
theorem RowN.fin {B d : Nat} {W w3 : World} {g n k : Nat} {ks : List Nd} (h : RowN B d W g n k ks) (he : Ext W w3) {x : Nd} (hx : ks[k]? = some x) {M M' : Option Addr × Nat} (hc : ∀ j v, (ndc x M)[j]? = some v → W.cell? ⟨g, k * 5 + j, none⟩ = some v)
    (hM:KidsAt B W.heap.size d w3 M' x.kids):RowN B d (w3.setCell ⟨g,k*5+4,none⟩ (.slice M'.1 x.kids.length M'.2)) g n (k+1) ks:=by
 have hlt:=h.lt
 refine RowN.next ((h.ext he).put (by omega) _) hx (fun j v hv=>?_) ((hM.lower (by omega)).setCell (by simp))
 have hj:j<5:=by
  rcases Nat.lt_or_ge j (ndc x M').length with g | g
  · exact g
  · rw [List.getElem?_eq_none g] at hv;cases hv
 by_cases h4:j=4
 · subst h4
   have h0:=he.keep (hc 4 _ rfl)
   rw [World.cell?_setCell_same' _ _ _ (by rw [h0];rfl)]
   exact hv
 · rw [World.cell?_setCell_other _ _ _ _ (by simp <;> omega)]
   refine he.keep (hc j v ?_)
   rcases (show j=0∨j=1∨j=2∨j=3 by omega) with rfl | rfl | rfl | rfl
   all_goals exact hv
set_option maxRecDepth 100000 in
set_option maxHeartbeats 6400000 in
theorem copies_any (B : Nat) (hB : B ≤ 1000000) : ∀ (d : Nat) (L : Option Addr × Nat) (ks : List Nd) (w : World), KidsAt B 0 d w L ks →
    Calls Tryz.prog 57 #[.slice L.1 ks.length L.2] w fun e w'=>RetKids B w.heap.size d ks e w'∧Ext w w':=by
 intro d
 induction d with
 | zero =>
  rintro ⟨A,c⟩ ks w ⟨rfl,_⟩
  dsimp only [List.length_nil]
  go_enter Tryz.func57,Tryz.ntmps57
  go_wp2
  go_ret
  exact ⟨⟨((none,0):Option Addr×Nat),rfl,KidsAt.nil _ _ _ _ _⟩,Ext.refl _⟩
 | succ d ih =>
  rintro ⟨A,c⟩ ks w h
  have HIH:=Hi ih
  clear ih
  have H:=Hi h
  have hfew:=h.few
  clear h
  dsimp only
  rcases Nat.eq_zero_or_pos ks.length with h0 | h0
  · obtain rfl:=List.eq_nil_of_length_eq_zero h0
    clear h0
    dsimp only [List.length_nil]
    go_enter Tryz.func57,Tryz.ntmps57
    go_wp2
    go_ret
    exact ⟨⟨((none,0):Option Addr×Nat),rfl,KidsAt.nil _ _ _ _ _⟩,Ext.refl _⟩
  · obtain ⟨n,hn⟩:∃ n,ks.length=n:=⟨_,rfl⟩
    rw [hn] at h0 hfew ⊢
    have HN:=Hi hn
    clear hn
    have hmk:=make_nd n (by omega)
    have e0:((n:Int) == 0)=false:=by rw [beq_eq_false_iff_ne];omega
    go_enter Tryz.func57,Tryz.ntmps57
    go_wp2
    clear hmk
    go_loopw [14] (fun i wr=>∃ k:Nat,k≤n∧i=.int .i64 k∧Hid (RowN B d wr w.heap.size n k ks)∧Ext w wr) (fun i _=>n-(intOf i).toNat)
    case atStart=>exact ⟨0,by omega,rfl,Hi (rowN_made _ _ _ _ _),(Ext.refl _).alloc _⟩
    case round =>
     obtain ⟨k,hk,rfl,HR,he⟩:=hrel
     by_cases hlt:k<n
     · obtain ⟨x,hx⟩:∃ x,ks[k]?=some x:=⟨ks[k]'(by rw [HN.out];exact hlt),List.getElem?_eq_getElem _⟩
       obtain ⟨b,off,M,hA,hb0,c0',c1',c2',c3',c4',hKM⟩:=H.out.at_ hx
       have c0:=he.keep c0'
       have c1:=he.keep c1'
       have c2:=he.keep c2'
       have c3:=he.keep c3'
       have c4:=he.keep c4'
       have hb:b<wr.heap.size:=Nat.lt_of_lt_of_le hb0 he.size
       clear c0' c1' c2' c3' c4' hb0
       dsimp only at hA
       subst hA
       have HX:=Hi hx
       have HKM:=Hi hKM
       clear hx hKM
       obtain ⟨v0,v1,v2,v3,v4,⟨g0,g1,g2,g3,g4⟩,hfr⟩:=HR.out.cells hlt
       have hg:=HR.out.lt
       have hfr0:=hfr (k*5)
       have hfr1:=hfr (k*5+1)
       have hfr2:=hfr (k*5+1+1)
       have hfr3:=hfr (k*5+1+1+1)
       have hfr4:=hfr (k*5+1+1+1+1)
       clear hfr
       have ki0:(0:Int)≤(k:Int):=by omega
       have ki1:(k:Int)<(n:Int):=by omega
       obtain ⟨HR5,HC5⟩:=RowN.put5 HR.out hlt x M (.cells #[.int .i64 x.tag,.int .i64 x.kind,.int .i64 x.n,.string x.s,.slice M.1 x.kids.length M.2] 52)
       have H5:=Hi HR5
       have HCS:=Hi HC5
       have X5:=Hi (ext_put5 he (k*5) (k*5+1) (k*5+2) (k*5+3) (k*5+4) (.int .i64 x.tag) (.int .i64 x.kind) (.int .i64 x.n) (.string x.s) (.slice M.1 x.kids.length M.2) (.cells #[.int .i64 x.tag,.int .i64 x.kind,.int .i64 x.n,.string x.s,.slice M.1 x.kids.length M.2] 52))
       clear HR5 HC5
       go_wp2_with fail
       with_reducible refine (HIH.out M x.kids _ (HKM.out.ext X5.out)).mono ?_
       rintro e w3 ⟨⟨M',rfl,hM'⟩,hb3⟩
       have q4:w3.cell? ⟨w.heap.size,k*5+4,none⟩=some (.slice M.1 x.kids.length M.2):=hb3.keep (HCS.out 4 _ rfl)
       have q4f:w3.frozen? ⟨w.heap.size,k*5+4,none⟩=false:=by
        rw [Below.frozen hb3 (p:=⟨w.heap.size,k*5+4,none⟩) H5.out.lt]
        obtain ⟨⟨f,hf⟩,_⟩:=H5.out
        exact hf.frozen _
       have HF:=Hi (RowN.fin H5.out hb3 HX.out HCS.out hM')
       have X3:=Hi (X5.out.trans hb3)
       clear hM' hb3 H5 HCS
       go_wp2
       go_roundw
       case rel=>exact ⟨k+1,by omega,by go_num,HF,X3.out.setCell (Nat.le_refl _) _⟩
       case measure=>simp [intOf];omega
     · obtain rfl:k=n:=by omega
       go_wp2
       go_ret
       exact ⟨⟨(some ⟨w.heap.size,0,none⟩,k),by rw [HN.out];rfl,by have:=RowN.done (lo:=w.heap.size) (by rw [HN.out];exact HR.out) HN.out hfew (by unfold maxLen;omega) (Nat.le_refl _);exact this⟩,he⟩
theorem ext_cells5 {w wr : World} (he : Ext w wr) (o0 o1 o2 o3 o4 : Nat) (v0 v1 v2 v3 v4 : Value) (g : Nat) (hg : w.heap.size ≤ g) :
    Ext w (((((wr.setCell ⟨g,o0,none⟩ v0).setCell ⟨g,o1,none⟩ v1).setCell ⟨g,o2,none⟩ v2).setCell ⟨g,o3,none⟩ v3).setCell ⟨g,o4,none⟩ v4) :=
 ((((he.setCell hg _).setCell hg _).setCell hg _).setCell hg _).setCell hg _
theorem kids_cells5 {B lo d : Nat} {w : World} {L : Option Addr × Nat} {ks : List Nd} (h : KidsAt B lo d w L ks) (o0 o1 o2 o3 o4 : Nat) (v0 v1 v2 v3 v4 : Value) {g : Nat} (hg : g < lo) :
    KidsAt B lo d (((((w.setCell ⟨g,o0,none⟩ v0).setCell ⟨g,o1,none⟩ v1).setCell ⟨g,o2,none⟩ v2).setCell ⟨g,o3,none⟩ v3).setCell ⟨g,o4,none⟩ v4) L ks :=
 ((((h.setCell hg).setCell hg).setCell hg).setCell hg).setCell hg
theorem block5 {w w' : World} {c0 c1 c2 c3 c4 : Value} {T : TypeId} (he : Ext (w.alloc (.cells #[c0, c1, c2, c3, c4] T)) w') :
    (w'.cell? ⟨w.heap.size,0,none⟩=some c0∧w'.cell? ⟨w.heap.size,1,none⟩=some c1∧w'.cell? ⟨w.heap.size,2,none⟩=some c2∧w'.cell? ⟨w.heap.size,3,none⟩=some c3∧w'.cell? ⟨w.heap.size,4,none⟩=some c4)∧(∀ i,w'.frozen? ⟨w.heap.size,i,none⟩=false)∧w.heap.size<w'.heap.size:=by
 have hb:w'.heap[w.heap.size]?=some (.cells #[c0,c1,c2,c3,c4] T (0,0)):=he.blockAt (heap_alloc_new w _)
 refine ⟨⟨he.keep ?_,he.keep ?_,he.keep ?_,he.keep ?_,he.keep ?_⟩,fun i=>by simp [World.frozen?,hb],?_⟩
 · rw [World.cell?_alloc_new];rfl
 · rw [World.cell?_alloc_new];rfl
 · rw [World.cell?_alloc_new];rfl
 · rw [World.cell?_alloc_new];rfl
 · rw [World.cell?_alloc_new];rfl
 · have:=he.size;simp at this;omega
theorem seen5 {w : World} {g : Nat} {c0 c1 c2 c3 c4 : Value} (k0 : w.cell? ⟨g, 0, none⟩ = some c0) (k1 : w.cell? ⟨g, 1, none⟩ = some c1) (k2 : w.cell? ⟨g, 2, none⟩ = some c2) (k3 : w.cell? ⟨g, 3, none⟩ = some c3) (k4 : w.cell? ⟨g, 4, none⟩ = some c4) (v0 v1 v2 v3 v4 : Value) :
    (w.setCell ⟨g,0,none⟩ v0).cell? ⟨g,0,none⟩=some v0∧((w.setCell ⟨g,0,none⟩ v0).setCell ⟨g,1,none⟩ v1).cell? ⟨g,1,none⟩=some v1∧(((w.setCell ⟨g,0,none⟩ v0).setCell ⟨g,1,none⟩ v1).setCell ⟨g,2,none⟩ v2).cell? ⟨g,2,none⟩=some v2 ∧
    ((((w.setCell ⟨g,0,none⟩ v0).setCell ⟨g,1,none⟩ v1).setCell ⟨g,2,none⟩ v2).setCell ⟨g,3,none⟩ v3).cell? ⟨g,3,none⟩=some v3∧(((((w.setCell ⟨g,0,none⟩ v0).setCell ⟨g,1,none⟩ v1).setCell ⟨g,2,none⟩ v2).setCell ⟨g,3,none⟩ v3).setCell ⟨g,4,none⟩ v4).cell? ⟨g,4,none⟩=some v4:=by
 refine ⟨World.cell?_setCell_same' _ _ _ (by rw [k0];rfl),World.cell?_setCell_same' _ _ _ ?_,World.cell?_setCell_same' _ _ _ ?_,World.cell?_setCell_same' _ _ _ ?_,World.cell?_setCell_same' _ _ _ ?_⟩
 · rw [World.cell?_setCell_other _ _ _ _ (by simp),k1];rfl
 · rw [World.cell?_setCell_other _ _ _ _ (by simp),World.cell?_setCell_other _ _ _ _ (by simp),k2];rfl
 · rw [World.cell?_setCell_other _ _ _ _ (by simp),World.cell?_setCell_other _ _ _ _ (by simp),World.cell?_setCell_other _ _ _ _ (by simp),k3];rfl
 · rw [World.cell?_setCell_other _ _ _ _ (by simp),World.cell?_setCell_other _ _ _ _ (by simp),World.cell?_setCell_other _ _ _ _ (by simp),World.cell?_setCell_other _ _ _ _ (by simp),k4];rfl
set_option maxRecDepth 100000 in
set_option maxHeartbeats 6400000 in
theorem list_any (B : Nat) (hB : B ≤ 1000000) (d : Nat) (tag : Int) (L : Option Addr × Nat) (ks : List Nd) (w : World) (h : KidsAt B 0 d w L ks) :
    Calls Tryz.prog 25 #[.int .i64 tag,.slice L.1 ks.length L.2] w fun e w'=>RetNd B w.heap.size d (.mk tag 3 0 ⟨#[]⟩ ks) e w'∧Ext w w':=by
 have H:=Hi h
 clear h
 go_enter Tryz.func25,Tryz.ntmps25
 go_wp2_with fail
 refine (copies_any B hB d L ks _ (H.out.ext ((Ext.refl _).alloc _))).mono ?_
 rintro e w1 ⟨⟨M,rfl,hM⟩,hb1⟩
 obtain ⟨⟨k0,k1,k2,k3,k4⟩,hfr,hlt⟩:=block5 hb1
 have f0:=hfr 0
 have f1:=hfr 1
 have f2:=hfr 2
 have f3:=hfr 3
 have f4:=hfr 4
 clear hfr
 have HM:Hid (KidsAt B (w.heap.size+1) d w1 M ks):=Hi (by rwa [World.size_alloc] at hM)
 have X1:Hid (Ext w w1):=Hi (((Ext.refl w).alloc _).trans hb1)
 clear hM hb1
 obtain ⟨s0,s1,s2,s3,s4⟩:=seen5 k0 k1 k2 k3 k4 (.int .i64 tag) (.int .i64 3) (.int .i64 0) (.string ⟨#[]⟩) (.slice M.1 ks.length M.2)
 go_wp2
 refine bodyPost_ret (v:=.agg #[.int .i64 tag,.int .i64 3,.int .i64 0,.string ⟨#[]⟩,.slice M.1 ks.length M.2]) (by simp [results,Tryz.results25,go_sem,s0,s1,s2,s3,s4]) rfl ⟨⟨M,rfl,?_⟩,?_⟩
 · exact (kids_cells5 (g:=w.heap.size) HM.out 0 1 2 3 4 (.int .i64 tag) (.int .i64 3) (.int .i64 0) (.string ⟨#[]⟩) (.slice M.1 ks.length M.2) (Nat.lt_succ_self _)).lower (Nat.le_succ _)
 · exact ext_cells5 X1.out 0 1 2 3 4 (.int .i64 tag) (.int .i64 3) (.int .i64 0) (.string ⟨#[]⟩) (.slice M.1 ks.length M.2) w.heap.size (Nat.le_refl _)

def isNd (x:Nd) (tag kind:Int):Bool:=decide (x.tag=tag) && decide (x.kind=kind) && (decide (kind=1) || decide (x.n=0)) && (decide (kind=2) || decide (x.s.size=0)) && (decide (kind=3) || decide (x.kids.length=0))


set_option maxRecDepth 100000 in
set_option maxHeartbeats 6400000 in
theorem isNode_1 (x : Nd) (M : Option Addr × Nat) (tag : Int) (w : World) (hs : x.s.size ≤ 9223372036854775807) (hl : x.kids.length ≤ 9223372036854775807) :
    Calls Tryz.prog 136 #[nda x M,.int .i64 tag,.int .i64 1] w fun e w'=>e=.returned (.bool (isNd x tag 1))∧Ext w w':=by
 obtain ⟨t,k,n,s,ks⟩:=x
 obtain ⟨v,hv⟩:∃ v,isNd (.mk t k n s ks) tag 1=v:=⟨_,rfl⟩
 rw [hv]
 have HV:Hid (isNd (.mk t k n s ks) tag 1=v):=Hi hv
 clear hv
 simp only [nda,Nd.tag,Nd.kind,Nd.n,Nd.s,Nd.kids] at hs hl ⊢
 by_cases hq:t=tag
 · have q_tag:=Hi hq
   have e1:(t == tag)=true:=by rw [hq];simp
   have e2:(t != tag)=false:=by rw [hq];simp
   clear hq
   by_cases hq:k=1
   · have q_kind:=Hi hq
     have e3:(k == 1)=true:=by rw [hq];rfl
     have e4:(k != 1)=false:=by rw [hq];rfl
     clear hq
     by_cases hq:s.size=0
     · have q_s:=Hi hq
       have e6:s.toList=[]:=str_empty hq
       have e7:s.toList.isEmpty=true:=by rw [e6];rfl
       have e8:(s.toList == (⟨#[]⟩:ByteArray).toList)=true:=by rw [e6];simp [ByteArray.toList_eq]
       clear hq
       by_cases hq:ks.length=0
       · have q_kids:=Hi hq
         have e9:((ks.length:Int) == 0)=true:=by rw [hq];rfl
         have e10:ks=[]:=List.eq_nil_of_length_eq_zero hq
         clear hq
         have HF:Hid (v=true):=Hi (by rw [← HV.out];unfold isNd;simp only [Nd.tag,Nd.kind,Nd.n,Nd.s,Nd.kids];simp [q_tag.out,q_kind.out,q_s.out,q_kids.out])
         clear HV q_tag q_kind q_s q_kids
         go_enter Tryz.func136,Tryz.ntmps136
         go_wp2
         all_goals
          go_ret
          exact ⟨ret_bool HF.out.symm,(Ext.refl _).alloc _⟩
       · have HF:Hid (v=false):=Hi (by rw [← HV.out];unfold isNd;simp only [Nd.tag,Nd.kind,Nd.n,Nd.s,Nd.kids];simp [hq])
         have e9:((ks.length:Int) == 0)=false:=by rw [beq_eq_false_iff_ne];omega
         have e10:¬ ks=[]:=fun e=>hq (by rw [e];rfl)
         clear hq HV q_tag q_kind q_s
         go_enter Tryz.func136,Tryz.ntmps136
         go_wp2
         all_goals
          go_ret
          exact ⟨ret_bool HF.out.symm,(Ext.refl _).alloc _⟩
     · have HF:Hid (v=false):=Hi (by rw [← HV.out];unfold isNd;simp only [Nd.tag,Nd.kind,Nd.n,Nd.s,Nd.kids];simp [hq])
       have e6:s.toList.isEmpty=false:=(str_some (by omega)).1
       have e7:¬ s.toList=[]:=(str_some (by omega)).2
       have e8:(s.toList == (⟨#[]⟩:ByteArray).toList)=false:=hbeq_of s ⟨#[]⟩ (fun e=>hq (by rw [e];rfl))
       clear hq HV q_tag q_kind
       go_enter Tryz.func136,Tryz.ntmps136
       go_wp2
       all_goals
        go_ret
        exact ⟨ret_bool HF.out.symm,(Ext.refl _).alloc _⟩
   · have HF:Hid (v=false):=Hi (by rw [← HV.out];unfold isNd;simp only [Nd.tag,Nd.kind,Nd.n,Nd.s,Nd.kids];simp [hq])
     have e3:(k == 1)=false:=by rw [beq_eq_false_iff_ne];exact hq
     have e4:(k != 1)=true:=by rw [bne_iff_ne];exact hq
     clear hq HV q_tag
     go_enter Tryz.func136,Tryz.ntmps136
     go_wp2
     all_goals
      go_ret
      exact ⟨ret_bool HF.out.symm,(Ext.refl _).alloc _⟩
 · have HF:Hid (v=false):=Hi (by rw [← HV.out];unfold isNd;simp only [Nd.tag,Nd.kind,Nd.n,Nd.s,Nd.kids];simp [hq])
   have e1:(t == tag)=false:=by rw [beq_eq_false_iff_ne];exact hq
   have e2:(t != tag)=true:=by rw [bne_iff_ne];exact hq
   clear hq HV 
   go_enter Tryz.func136,Tryz.ntmps136
   go_wp2
   all_goals
    go_ret
    exact ⟨ret_bool HF.out.symm,(Ext.refl _).alloc _⟩


set_option maxRecDepth 100000 in
set_option maxHeartbeats 6400000 in
theorem isNode_2 (x : Nd) (M : Option Addr × Nat) (tag : Int) (w : World) (hs : x.s.size ≤ 9223372036854775807) (hl : x.kids.length ≤ 9223372036854775807) :
    Calls Tryz.prog 136 #[nda x M,.int .i64 tag,.int .i64 2] w fun e w'=>e=.returned (.bool (isNd x tag 2))∧Ext w w':=by
 obtain ⟨t,k,n,s,ks⟩:=x
 obtain ⟨v,hv⟩:∃ v,isNd (.mk t k n s ks) tag 2=v:=⟨_,rfl⟩
 rw [hv]
 have HV:Hid (isNd (.mk t k n s ks) tag 2=v):=Hi hv
 clear hv
 simp only [nda,Nd.tag,Nd.kind,Nd.n,Nd.s,Nd.kids] at hs hl ⊢
 by_cases hq:t=tag
 · have q_tag:=Hi hq
   have e1:(t == tag)=true:=by rw [hq];simp
   have e2:(t != tag)=false:=by rw [hq];simp
   clear hq
   by_cases hq:k=2
   · have q_kind:=Hi hq
     have e3:(k == 2)=true:=by rw [hq];rfl
     have e4:(k != 2)=false:=by rw [hq];rfl
     clear hq
     by_cases hq:n=0
     · have q_n:=Hi hq
       have e5:(n == 0)=true:=by rw [hq];rfl
       clear hq
       by_cases hq:ks.length=0
       · have q_kids:=Hi hq
         have e9:((ks.length:Int) == 0)=true:=by rw [hq];rfl
         have e10:ks=[]:=List.eq_nil_of_length_eq_zero hq
         clear hq
         have HF:Hid (v=true):=Hi (by rw [← HV.out];unfold isNd;simp only [Nd.tag,Nd.kind,Nd.n,Nd.s,Nd.kids];simp [q_tag.out,q_kind.out,q_n.out,q_kids.out])
         clear HV q_tag q_kind q_n q_kids
         go_enter Tryz.func136,Tryz.ntmps136
         go_wp2
         all_goals
          go_ret
          exact ⟨ret_bool HF.out.symm,(Ext.refl _).alloc _⟩
       · have HF:Hid (v=false):=Hi (by rw [← HV.out];unfold isNd;simp only [Nd.tag,Nd.kind,Nd.n,Nd.s,Nd.kids];simp [hq])
         have e9:((ks.length:Int) == 0)=false:=by rw [beq_eq_false_iff_ne];omega
         have e10:¬ ks=[]:=fun e=>hq (by rw [e];rfl)
         clear hq HV q_tag q_kind q_n
         go_enter Tryz.func136,Tryz.ntmps136
         go_wp2
         all_goals
          go_ret
          exact ⟨ret_bool HF.out.symm,(Ext.refl _).alloc _⟩
     · have HF:Hid (v=false):=Hi (by rw [← HV.out];unfold isNd;simp only [Nd.tag,Nd.kind,Nd.n,Nd.s,Nd.kids];simp [hq])
       have e5:(n == 0)=false:=by rw [beq_eq_false_iff_ne];exact hq
       clear hq HV q_tag q_kind
       go_enter Tryz.func136,Tryz.ntmps136
       go_wp2
       all_goals
        go_ret
        exact ⟨ret_bool HF.out.symm,(Ext.refl _).alloc _⟩
   · have HF:Hid (v=false):=Hi (by rw [← HV.out];unfold isNd;simp only [Nd.tag,Nd.kind,Nd.n,Nd.s,Nd.kids];simp [hq])
     have e3:(k == 2)=false:=by rw [beq_eq_false_iff_ne];exact hq
     have e4:(k != 2)=true:=by rw [bne_iff_ne];exact hq
     clear hq HV q_tag
     go_enter Tryz.func136,Tryz.ntmps136
     go_wp2
     all_goals
      go_ret
      exact ⟨ret_bool HF.out.symm,(Ext.refl _).alloc _⟩
 · have HF:Hid (v=false):=Hi (by rw [← HV.out];unfold isNd;simp only [Nd.tag,Nd.kind,Nd.n,Nd.s,Nd.kids];simp [hq])
   have e1:(t == tag)=false:=by rw [beq_eq_false_iff_ne];exact hq
   have e2:(t != tag)=true:=by rw [bne_iff_ne];exact hq
   clear hq HV 
   go_enter Tryz.func136,Tryz.ntmps136
   go_wp2
   all_goals
    go_ret
    exact ⟨ret_bool HF.out.symm,(Ext.refl _).alloc _⟩


set_option maxRecDepth 100000 in
set_option maxHeartbeats 6400000 in
theorem isNode_3 (x : Nd) (M : Option Addr × Nat) (tag : Int) (w : World) (hs : x.s.size ≤ 9223372036854775807) (hl : x.kids.length ≤ 9223372036854775807) :
    Calls Tryz.prog 136 #[nda x M,.int .i64 tag,.int .i64 3] w fun e w'=>e=.returned (.bool (isNd x tag 3))∧Ext w w':=by
 obtain ⟨t,k,n,s,ks⟩:=x
 obtain ⟨v,hv⟩:∃ v,isNd (.mk t k n s ks) tag 3=v:=⟨_,rfl⟩
 rw [hv]
 have HV:Hid (isNd (.mk t k n s ks) tag 3=v):=Hi hv
 clear hv
 simp only [nda,Nd.tag,Nd.kind,Nd.n,Nd.s,Nd.kids] at hs hl ⊢
 by_cases hq:t=tag
 · have q_tag:=Hi hq
   have e1:(t == tag)=true:=by rw [hq];simp
   have e2:(t != tag)=false:=by rw [hq];simp
   clear hq
   by_cases hq:k=3
   · have q_kind:=Hi hq
     have e3:(k == 3)=true:=by rw [hq];rfl
     have e4:(k != 3)=false:=by rw [hq];rfl
     clear hq
     by_cases hq:n=0
     · have q_n:=Hi hq
       have e5:(n == 0)=true:=by rw [hq];rfl
       clear hq
       by_cases hq:s.size=0
       · have q_s:=Hi hq
         have e6:s.toList=[]:=str_empty hq
         have e7:s.toList.isEmpty=true:=by rw [e6];rfl
         have e8:(s.toList == (⟨#[]⟩:ByteArray).toList)=true:=by rw [e6];simp [ByteArray.toList_eq]
         clear hq
         have HF:Hid (v=true):=Hi (by rw [← HV.out];unfold isNd;simp only [Nd.tag,Nd.kind,Nd.n,Nd.s,Nd.kids];simp [q_tag.out,q_kind.out,q_n.out,q_s.out])
         clear HV q_tag q_kind q_n q_s
         go_enter Tryz.func136,Tryz.ntmps136
         go_wp2
         all_goals
          go_ret
          exact ⟨ret_bool HF.out.symm,(Ext.refl _).alloc _⟩
       · have HF:Hid (v=false):=Hi (by rw [← HV.out];unfold isNd;simp only [Nd.tag,Nd.kind,Nd.n,Nd.s,Nd.kids];simp [hq])
         have e6:s.toList.isEmpty=false:=(str_some (by omega)).1
         have e7:¬ s.toList=[]:=(str_some (by omega)).2
         have e8:(s.toList == (⟨#[]⟩:ByteArray).toList)=false:=hbeq_of s ⟨#[]⟩ (fun e=>hq (by rw [e];rfl))
         clear hq HV q_tag q_kind q_n
         go_enter Tryz.func136,Tryz.ntmps136
         go_wp2
         all_goals
          go_ret
          exact ⟨ret_bool HF.out.symm,(Ext.refl _).alloc _⟩
     · have HF:Hid (v=false):=Hi (by rw [← HV.out];unfold isNd;simp only [Nd.tag,Nd.kind,Nd.n,Nd.s,Nd.kids];simp [hq])
       have e5:(n == 0)=false:=by rw [beq_eq_false_iff_ne];exact hq
       clear hq HV q_tag q_kind
       go_enter Tryz.func136,Tryz.ntmps136
       go_wp2
       all_goals
        go_ret
        exact ⟨ret_bool HF.out.symm,(Ext.refl _).alloc _⟩
   · have HF:Hid (v=false):=Hi (by rw [← HV.out];unfold isNd;simp only [Nd.tag,Nd.kind,Nd.n,Nd.s,Nd.kids];simp [hq])
     have e3:(k == 3)=false:=by rw [beq_eq_false_iff_ne];exact hq
     have e4:(k != 3)=true:=by rw [bne_iff_ne];exact hq
     clear hq HV q_tag
     go_enter Tryz.func136,Tryz.ntmps136
     go_wp2
     all_goals
      go_ret
      exact ⟨ret_bool HF.out.symm,(Ext.refl _).alloc _⟩
 · have HF:Hid (v=false):=Hi (by rw [← HV.out];unfold isNd;simp only [Nd.tag,Nd.kind,Nd.n,Nd.s,Nd.kids];simp [hq])
   have e1:(t == tag)=false:=by rw [beq_eq_false_iff_ne];exact hq
   have e2:(t != tag)=true:=by rw [bne_iff_ne];exact hq
   clear hq HV 
   go_enter Tryz.func136,Tryz.ntmps136
   go_wp2
   all_goals
    go_ret
    exact ⟨ret_bool HF.out.symm,(Ext.refl _).alloc _⟩


set_option maxRecDepth 100000 in
set_option maxHeartbeats 6400000 in
theorem formed_1 (x : Nd) (M : Option Addr × Nat) (tag : Int) (w : World) (hs : x.s.size ≤ 9223372036854775807) (hl : x.kids.length ≤ 9223372036854775807) :
    Calls Tryz.prog 82 #[nda x M,.int .i64 tag,.int .i64 1] w fun e w'=>e=.returned (.bool (isNd x tag 1))∧Ext w w':=by
 obtain ⟨t,k,n,s,ks⟩:=x
 obtain ⟨v,hv⟩:∃ v,isNd (.mk t k n s ks) tag 1=v:=⟨_,rfl⟩
 rw [hv]
 have HV:Hid (isNd (.mk t k n s ks) tag 1=v):=Hi hv
 clear hv
 simp only [nda,Nd.tag,Nd.kind,Nd.n,Nd.s,Nd.kids] at hs hl ⊢
 by_cases hq:t=tag
 · have q_tag:=Hi hq
   have e1:(t == tag)=true:=by rw [hq];simp
   have e2:(t != tag)=false:=by rw [hq];simp
   clear hq
   by_cases hq:k=1
   · have q_kind:=Hi hq
     have e3:(k == 1)=true:=by rw [hq];rfl
     have e4:(k != 1)=false:=by rw [hq];rfl
     clear hq
     by_cases hq:s.size=0
     · have q_s:=Hi hq
       have e6:s.toList=[]:=str_empty hq
       have e7:s.toList.isEmpty=true:=by rw [e6];rfl
       have e8:(s.toList == (⟨#[]⟩:ByteArray).toList)=true:=by rw [e6];simp [ByteArray.toList_eq]
       clear hq
       by_cases hq:ks.length=0
       · have q_kids:=Hi hq
         have e9:((ks.length:Int) == 0)=true:=by rw [hq];rfl
         have e10:ks=[]:=List.eq_nil_of_length_eq_zero hq
         clear hq
         have HF:Hid (v=true):=Hi (by rw [← HV.out];unfold isNd;simp only [Nd.tag,Nd.kind,Nd.n,Nd.s,Nd.kids];simp [q_tag.out,q_kind.out,q_s.out,q_kids.out])
         clear HV q_tag q_kind q_s q_kids
         go_enter Tryz.func82,Tryz.ntmps82
         go_wp2
         all_goals
          go_ret
          exact ⟨ret_bool HF.out.symm,(Ext.refl _).alloc _⟩
       · have HF:Hid (v=false):=Hi (by rw [← HV.out];unfold isNd;simp only [Nd.tag,Nd.kind,Nd.n,Nd.s,Nd.kids];simp [hq])
         have e9:((ks.length:Int) == 0)=false:=by rw [beq_eq_false_iff_ne];omega
         have e10:¬ ks=[]:=fun e=>hq (by rw [e];rfl)
         clear hq HV q_tag q_kind q_s
         go_enter Tryz.func82,Tryz.ntmps82
         go_wp2
         all_goals
          go_ret
          exact ⟨ret_bool HF.out.symm,(Ext.refl _).alloc _⟩
     · have HF:Hid (v=false):=Hi (by rw [← HV.out];unfold isNd;simp only [Nd.tag,Nd.kind,Nd.n,Nd.s,Nd.kids];simp [hq])
       have e6:s.toList.isEmpty=false:=(str_some (by omega)).1
       have e7:¬ s.toList=[]:=(str_some (by omega)).2
       have e8:(s.toList == (⟨#[]⟩:ByteArray).toList)=false:=hbeq_of s ⟨#[]⟩ (fun e=>hq (by rw [e];rfl))
       clear hq HV q_tag q_kind
       go_enter Tryz.func82,Tryz.ntmps82
       go_wp2
       all_goals
        go_ret
        exact ⟨ret_bool HF.out.symm,(Ext.refl _).alloc _⟩
   · have HF:Hid (v=false):=Hi (by rw [← HV.out];unfold isNd;simp only [Nd.tag,Nd.kind,Nd.n,Nd.s,Nd.kids];simp [hq])
     have e3:(k == 1)=false:=by rw [beq_eq_false_iff_ne];exact hq
     have e4:(k != 1)=true:=by rw [bne_iff_ne];exact hq
     clear hq HV q_tag
     go_enter Tryz.func82,Tryz.ntmps82
     go_wp2
     all_goals
      go_ret
      exact ⟨ret_bool HF.out.symm,(Ext.refl _).alloc _⟩
 · have HF:Hid (v=false):=Hi (by rw [← HV.out];unfold isNd;simp only [Nd.tag,Nd.kind,Nd.n,Nd.s,Nd.kids];simp [hq])
   have e1:(t == tag)=false:=by rw [beq_eq_false_iff_ne];exact hq
   have e2:(t != tag)=true:=by rw [bne_iff_ne];exact hq
   clear hq HV 
   go_enter Tryz.func82,Tryz.ntmps82
   go_wp2
   all_goals
    go_ret
    exact ⟨ret_bool HF.out.symm,(Ext.refl _).alloc _⟩


set_option maxRecDepth 100000 in
set_option maxHeartbeats 6400000 in
theorem formed_2 (x : Nd) (M : Option Addr × Nat) (tag : Int) (w : World) (hs : x.s.size ≤ 9223372036854775807) (hl : x.kids.length ≤ 9223372036854775807) :
    Calls Tryz.prog 82 #[nda x M,.int .i64 tag,.int .i64 2] w fun e w'=>e=.returned (.bool (isNd x tag 2))∧Ext w w':=by
 obtain ⟨t,k,n,s,ks⟩:=x
 obtain ⟨v,hv⟩:∃ v,isNd (.mk t k n s ks) tag 2=v:=⟨_,rfl⟩
 rw [hv]
 have HV:Hid (isNd (.mk t k n s ks) tag 2=v):=Hi hv
 clear hv
 simp only [nda,Nd.tag,Nd.kind,Nd.n,Nd.s,Nd.kids] at hs hl ⊢
 by_cases hq:t=tag
 · have q_tag:=Hi hq
   have e1:(t == tag)=true:=by rw [hq];simp
   have e2:(t != tag)=false:=by rw [hq];simp
   clear hq
   by_cases hq:k=2
   · have q_kind:=Hi hq
     have e3:(k == 2)=true:=by rw [hq];rfl
     have e4:(k != 2)=false:=by rw [hq];rfl
     clear hq
     by_cases hq:n=0
     · have q_n:=Hi hq
       have e5:(n == 0)=true:=by rw [hq];rfl
       clear hq
       by_cases hq:ks.length=0
       · have q_kids:=Hi hq
         have e9:((ks.length:Int) == 0)=true:=by rw [hq];rfl
         have e10:ks=[]:=List.eq_nil_of_length_eq_zero hq
         clear hq
         have HF:Hid (v=true):=Hi (by rw [← HV.out];unfold isNd;simp only [Nd.tag,Nd.kind,Nd.n,Nd.s,Nd.kids];simp [q_tag.out,q_kind.out,q_n.out,q_kids.out])
         clear HV q_tag q_kind q_n q_kids
         go_enter Tryz.func82,Tryz.ntmps82
         go_wp2
         all_goals
          go_ret
          exact ⟨ret_bool HF.out.symm,(Ext.refl _).alloc _⟩
       · have HF:Hid (v=false):=Hi (by rw [← HV.out];unfold isNd;simp only [Nd.tag,Nd.kind,Nd.n,Nd.s,Nd.kids];simp [hq])
         have e9:((ks.length:Int) == 0)=false:=by rw [beq_eq_false_iff_ne];omega
         have e10:¬ ks=[]:=fun e=>hq (by rw [e];rfl)
         clear hq HV q_tag q_kind q_n
         go_enter Tryz.func82,Tryz.ntmps82
         go_wp2
         all_goals
          go_ret
          exact ⟨ret_bool HF.out.symm,(Ext.refl _).alloc _⟩
     · have HF:Hid (v=false):=Hi (by rw [← HV.out];unfold isNd;simp only [Nd.tag,Nd.kind,Nd.n,Nd.s,Nd.kids];simp [hq])
       have e5:(n == 0)=false:=by rw [beq_eq_false_iff_ne];exact hq
       clear hq HV q_tag q_kind
       go_enter Tryz.func82,Tryz.ntmps82
       go_wp2
       all_goals
        go_ret
        exact ⟨ret_bool HF.out.symm,(Ext.refl _).alloc _⟩
   · have HF:Hid (v=false):=Hi (by rw [← HV.out];unfold isNd;simp only [Nd.tag,Nd.kind,Nd.n,Nd.s,Nd.kids];simp [hq])
     have e3:(k == 2)=false:=by rw [beq_eq_false_iff_ne];exact hq
     have e4:(k != 2)=true:=by rw [bne_iff_ne];exact hq
     clear hq HV q_tag
     go_enter Tryz.func82,Tryz.ntmps82
     go_wp2
     all_goals
      go_ret
      exact ⟨ret_bool HF.out.symm,(Ext.refl _).alloc _⟩
 · have HF:Hid (v=false):=Hi (by rw [← HV.out];unfold isNd;simp only [Nd.tag,Nd.kind,Nd.n,Nd.s,Nd.kids];simp [hq])
   have e1:(t == tag)=false:=by rw [beq_eq_false_iff_ne];exact hq
   have e2:(t != tag)=true:=by rw [bne_iff_ne];exact hq
   clear hq HV 
   go_enter Tryz.func82,Tryz.ntmps82
   go_wp2
   all_goals
    go_ret
    exact ⟨ret_bool HF.out.symm,(Ext.refl _).alloc _⟩


set_option maxRecDepth 100000 in
set_option maxHeartbeats 6400000 in
theorem formed_3 (x : Nd) (M : Option Addr × Nat) (tag : Int) (w : World) (hs : x.s.size ≤ 9223372036854775807) (hl : x.kids.length ≤ 9223372036854775807) :
    Calls Tryz.prog 82 #[nda x M,.int .i64 tag,.int .i64 3] w fun e w'=>e=.returned (.bool (isNd x tag 3))∧Ext w w':=by
 obtain ⟨t,k,n,s,ks⟩:=x
 obtain ⟨v,hv⟩:∃ v,isNd (.mk t k n s ks) tag 3=v:=⟨_,rfl⟩
 rw [hv]
 have HV:Hid (isNd (.mk t k n s ks) tag 3=v):=Hi hv
 clear hv
 simp only [nda,Nd.tag,Nd.kind,Nd.n,Nd.s,Nd.kids] at hs hl ⊢
 by_cases hq:t=tag
 · have q_tag:=Hi hq
   have e1:(t == tag)=true:=by rw [hq];simp
   have e2:(t != tag)=false:=by rw [hq];simp
   clear hq
   by_cases hq:k=3
   · have q_kind:=Hi hq
     have e3:(k == 3)=true:=by rw [hq];rfl
     have e4:(k != 3)=false:=by rw [hq];rfl
     clear hq
     by_cases hq:n=0
     · have q_n:=Hi hq
       have e5:(n == 0)=true:=by rw [hq];rfl
       clear hq
       by_cases hq:s.size=0
       · have q_s:=Hi hq
         have e6:s.toList=[]:=str_empty hq
         have e7:s.toList.isEmpty=true:=by rw [e6];rfl
         have e8:(s.toList == (⟨#[]⟩:ByteArray).toList)=true:=by rw [e6];simp [ByteArray.toList_eq]
         clear hq
         have HF:Hid (v=true):=Hi (by rw [← HV.out];unfold isNd;simp only [Nd.tag,Nd.kind,Nd.n,Nd.s,Nd.kids];simp [q_tag.out,q_kind.out,q_n.out,q_s.out])
         clear HV q_tag q_kind q_n q_s
         go_enter Tryz.func82,Tryz.ntmps82
         go_wp2
         all_goals
          go_ret
          exact ⟨ret_bool HF.out.symm,(Ext.refl _).alloc _⟩
       · have HF:Hid (v=false):=Hi (by rw [← HV.out];unfold isNd;simp only [Nd.tag,Nd.kind,Nd.n,Nd.s,Nd.kids];simp [hq])
         have e6:s.toList.isEmpty=false:=(str_some (by omega)).1
         have e7:¬ s.toList=[]:=(str_some (by omega)).2
         have e8:(s.toList == (⟨#[]⟩:ByteArray).toList)=false:=hbeq_of s ⟨#[]⟩ (fun e=>hq (by rw [e];rfl))
         clear hq HV q_tag q_kind q_n
         go_enter Tryz.func82,Tryz.ntmps82
         go_wp2
         all_goals
          go_ret
          exact ⟨ret_bool HF.out.symm,(Ext.refl _).alloc _⟩
     · have HF:Hid (v=false):=Hi (by rw [← HV.out];unfold isNd;simp only [Nd.tag,Nd.kind,Nd.n,Nd.s,Nd.kids];simp [hq])
       have e5:(n == 0)=false:=by rw [beq_eq_false_iff_ne];exact hq
       clear hq HV q_tag q_kind
       go_enter Tryz.func82,Tryz.ntmps82
       go_wp2
       all_goals
        go_ret
        exact ⟨ret_bool HF.out.symm,(Ext.refl _).alloc _⟩
   · have HF:Hid (v=false):=Hi (by rw [← HV.out];unfold isNd;simp only [Nd.tag,Nd.kind,Nd.n,Nd.s,Nd.kids];simp [hq])
     have e3:(k == 3)=false:=by rw [beq_eq_false_iff_ne];exact hq
     have e4:(k != 3)=true:=by rw [bne_iff_ne];exact hq
     clear hq HV q_tag
     go_enter Tryz.func82,Tryz.ntmps82
     go_wp2
     all_goals
      go_ret
      exact ⟨ret_bool HF.out.symm,(Ext.refl _).alloc _⟩
 · have HF:Hid (v=false):=Hi (by rw [← HV.out];unfold isNd;simp only [Nd.tag,Nd.kind,Nd.n,Nd.s,Nd.kids];simp [hq])
   have e1:(t == tag)=false:=by rw [beq_eq_false_iff_ne];exact hq
   have e2:(t != tag)=true:=by rw [bne_iff_ne];exact hq
   clear hq HV 
   go_enter Tryz.func82,Tryz.ntmps82
   go_wp2
   all_goals
    go_ret
    exact ⟨ret_bool HF.out.symm,(Ext.refl _).alloc _⟩

def leafI (x:Int):Nd:=.mk 0 1 x ⟨#[]⟩ []
def leafS (s:ByteArray):Nd:=.mk 0 2 0 s []
theorem list_to (B : Nat) (hB : B ≤ 1000000) (d : Nat) (tag : Int) (A : Option Addr) (c : Nat) (ks : List Nd) {n : Nat} (hn : ks.length = n) (w : World) (h : KidsAt B 0 d w (A, c) ks) :
    Calls Tryz.prog 25 #[.int .i64 tag,.slice A n c] w fun e w'=>(∃ M:Option Addr×Nat,e=.returned (.agg #[.int .i64 tag,.int .i64 3,.int .i64 0,.string ⟨#[]⟩,.slice M.1 n M.2])∧KidsAt B w.heap.size d w' M ks)∧Ext w w':=by
 subst hn
 refine (list_any B hB d tag (A,c) ks w h).mono ?_
 rintro e w' ⟨⟨M,rfl,hM⟩,hb⟩
 exact ⟨⟨M,rfl,hM⟩,hb⟩
theorem int_to (tag n:Int) (w:World):Calls Tryz.prog 51 #[.int .i64 tag,.int .i64 n] w fun e w'=>e=.returned (.agg #[.int .i64 tag,.int .i64 1,.int .i64 n,.string ⟨#[]⟩,.slice none 0 0])∧Ext w w':=int_any tag n w
theorem string_to (tag:Int) (s:ByteArray) (w:World):Calls Tryz.prog 52 #[.int .i64 tag,.string s] w fun e w'=>e=.returned (.agg #[.int .i64 tag,.int .i64 2,.int .i64 0,.string s,.slice none 0 0])∧Ext w w':=string_any tag s w
theorem RowN.free {B d:Nat} {w:World} {g n k:Nat} {ks:List Nd} (h:RowN B d w g n k ks) (i:Nat):w.frozen? ⟨g,i,none⟩=false:=by
 obtain ⟨⟨f,hf⟩,_⟩:=h
 exact hf.frozen _


set_option maxRecDepth 100000 in
set_option maxHeartbeats 6400000 in
theorem numbers_any (tag : Int) (A : Option Addr) (c : Nat) (l : List Int) (w : World) (h : SlI w A l) (hl : l.length ≤ 1000) :
    Calls Tryz.prog 54 #[.int .i64 tag,.slice A l.length c] w fun e w'=>RetNd 1000 w.heap.size 1 (.mk tag 3 0 ⟨#[]⟩ (l.map leafI)) e w'∧Ext w w':=by
 have H:=Hi h
 clear h
 obtain ⟨n,hn⟩:∃ n,l.length=n:=⟨_,rfl⟩
 rw [hn] at hl ⊢
 have HN:=Hi hn
 have HM:Hid ((l.map leafI).length=n):=Hi (by rw [List.length_map,hn])
 clear hn
 have hmk:=make_nd n (by omega)
 go_enter Tryz.func54,Tryz.ntmps54
 go_wp2
 clear hmk
 go_loopw [13] (fun i wr=>∃ k:Nat,k≤n∧i=.int .i64 k∧Hid (RowN 1000 0 wr (w.heap.size+1) n k (l.map leafI))∧Ext (w.alloc (.cells #[.int .i64 0,.int .i64 0,.int .i64 0,.string ⟨#[]⟩,.slice none 0 0] 52)) wr) (fun i _=>n-(intOf i).toNat)
 case atStart=>exact ⟨0,by omega,rfl,Hi (by have:=rowN_made 1000 0 (w.alloc (.cells #[.int .i64 0,.int .i64 0,.int .i64 0,.string ⟨#[]⟩,.slice none 0 0] 52)) n (l.map leafI);rwa [World.size_alloc] at this),(Ext.refl _).alloc _⟩
 case round =>
  obtain ⟨k,hk,rfl,HR,he⟩:=hrel
  have hew:Hid (Ext w wr):=Hi (((Ext.refl w).alloc _).trans he)
  by_cases hlt:k<n
  · have hlk:k<l.length:=by rw [HN.out];exact hlt
    obtain ⟨b,off,x,rfl,hb,hx,hc⟩:=(H.out.ext hew.out).at_ hlk
    have HX:Hid ((l.map leafI)[k]?=some (.mk 0 1 x ⟨#[]⟩ [])):=Hi (by rw [List.getElem?_map,hx];rfl)
    clear hx hlk
    have ki0:(0:Int)≤(k:Int):=by omega
    have ki1:(k:Int)<(n:Int):=by omega
    go_wp2_with fail
    refine (int_to 0 x _).mono ?_
    rintro e w1 ⟨rfl,hb1⟩
    have HR1:=Hi (HR.out.ext hb1)
    obtain ⟨v0,v1,v2,v3,v4,⟨g0,g1,g2,g3,g4⟩,_⟩:=HR1.out.cells hlt
    have hfr0:=HR1.out.free (k*5)
    have hfr1:=HR1.out.free (k*5+1)
    have hfr2:=HR1.out.free (k*5+1+1)
    have hfr3:=HR1.out.free (k*5+1+1+1)
    have hfr4:=HR1.out.free (k*5+1+1+1+1)
    have hg1:=HR1.out.lt
    have HF:=Hi (RowN.leaf HR1.out hlt HX.out)
    have X1:=Hi (he.trans hb1)
    clear hb1 HR1
    go_wp2
    go_roundw
    case rel=>exact ⟨k+1,by omega,by go_num,HF,ext_cells5 X1.out (k*5) (k*5+1) (k*5+2) (k*5+3) (k*5+4) (.int .i64 0) (.int .i64 1) (.int .i64 x) (.string ⟨#[]⟩) (.slice none 0 0) (w.heap.size+1) (by simp)⟩
    case measure=>simp [intOf];omega
  · obtain rfl:k=n:=by omega
    have HK:Hid (KidsAt 1000 0 1 wr (some ⟨w.heap.size+1,0,none⟩,k) (l.map leafI)):=Hi (RowN.done (by rw [HM.out];exact HR.out) HM.out hl (by unfold maxLen;omega) (Nat.zero_le _))
    go_wp2_with fail
    refine (list_to 1000 (by omega) 1 tag (some ⟨w.heap.size+1,0,none⟩) k (l.map leafI) HM.out _ HK.out).mono ?_
    rintro e w1 ⟨⟨M,rfl,hM⟩,hb1⟩
    obtain ⟨⟨k0,k1,k2,k3,k4⟩,hfr,hlt1⟩:=block5 (he.trans hb1)
    have f0:=hfr 0
    have f1:=hfr 1
    have f2:=hfr 2
    have f3:=hfr 3
    have f4:=hfr 4
    clear hfr
    have hwr:w.heap.size+1≤wr.heap.size:=by have:=he.size;simpa using this
    have HMK:Hid (KidsAt 1000 (w.heap.size+1) 1 w1 M (l.map leafI)):=Hi (hM.lower hwr)
    have X1:Hid (Ext w w1):=Hi (hew.out.trans hb1)
    clear hM hb1 he
    obtain ⟨s0,s1,s2,s3,s4⟩:=seen5 k0 k1 k2 k3 k4 (.int .i64 tag) (.int .i64 3) (.int .i64 0) (.string ⟨#[]⟩) (.slice M.1 k M.2)
    go_wp2
    refine bodyPost_ret (v:=.agg #[.int .i64 tag,.int .i64 3,.int .i64 0,.string ⟨#[]⟩,.slice M.1 k M.2]) (by simp [results,Tryz.results54,go_sem,s0,s1,s2,s3,s4]) rfl ⟨⟨M,by show _=Ending.returned (.agg #[.int .i64 tag,.int .i64 3,.int .i64 0,.string ⟨#[]⟩,.slice M.1 (l.map leafI).length M.2]);rw [HM.out],?_⟩,?_⟩
    · exact (kids_cells5 (g:=w.heap.size) HMK.out 0 1 2 3 4 (.int .i64 tag) (.int .i64 3) (.int .i64 0) (.string ⟨#[]⟩) (.slice M.1 k M.2) (Nat.lt_succ_self _)).lower (Nat.le_succ _)
    · exact ext_cells5 X1.out 0 1 2 3 4 (.int .i64 tag) (.int .i64 3) (.int .i64 0) (.string ⟨#[]⟩) (.slice M.1 k M.2) w.heap.size (Nat.le_refl _)


set_option maxRecDepth 100000 in
set_option maxHeartbeats 6400000 in
theorem texts_any (tag : Int) (A : Option Addr) (c : Nat) (l : List ByteArray) (w : World) (h : SlS w A l) (hl : l.length ≤ 1000) :
    Calls Tryz.prog 53 #[.int .i64 tag,.slice A l.length c] w fun e w'=>RetNd 1000 w.heap.size 1 (.mk tag 3 0 ⟨#[]⟩ (l.map leafS)) e w'∧Ext w w':=by
 have H:=Hi h
 clear h
 obtain ⟨n,hn⟩:∃ n,l.length=n:=⟨_,rfl⟩
 rw [hn] at hl ⊢
 have HN:=Hi hn
 have HM:Hid ((l.map leafS).length=n):=Hi (by rw [List.length_map,hn])
 clear hn
 have hmk:=make_nd n (by omega)
 go_enter Tryz.func53,Tryz.ntmps53
 go_wp2
 clear hmk
 go_loopw [13] (fun i wr=>∃ k:Nat,k≤n∧i=.int .i64 k∧Hid (RowN 1000 0 wr (w.heap.size+1) n k (l.map leafS))∧Ext (w.alloc (.cells #[.int .i64 0,.int .i64 0,.int .i64 0,.string ⟨#[]⟩,.slice none 0 0] 52)) wr) (fun i _=>n-(intOf i).toNat)
 case atStart=>exact ⟨0,by omega,rfl,Hi (by have:=rowN_made 1000 0 (w.alloc (.cells #[.int .i64 0,.int .i64 0,.int .i64 0,.string ⟨#[]⟩,.slice none 0 0] 52)) n (l.map leafS);rwa [World.size_alloc] at this),(Ext.refl _).alloc _⟩
 case round =>
  obtain ⟨k,hk,rfl,HR,he⟩:=hrel
  have hew:Hid (Ext w wr):=Hi (((Ext.refl w).alloc _).trans he)
  by_cases hlt:k<n
  · have hlk:k<l.length:=by rw [HN.out];exact hlt
    obtain ⟨b,off,rfl,hb,hc⟩:=(H.out.ext hew.out).at_ hlk
    obtain ⟨x,hx0⟩:∃ x,l[k]=x:=⟨_,rfl⟩
    have hx:l[k]?=some x:=by rw [List.getElem?_eq_getElem hlk,hx0]
    rw [hx0] at hc
    clear hx0
    have HX:Hid ((l.map leafS)[k]?=some (.mk 0 2 0 x [])):=Hi (by rw [List.getElem?_map,hx];rfl)
    clear hx hlk
    have ki0:(0:Int)≤(k:Int):=by omega
    have ki1:(k:Int)<(n:Int):=by omega
    go_wp2_with fail
    refine (string_to 0 x _).mono ?_
    rintro e w1 ⟨rfl,hb1⟩
    have HR1:=Hi (HR.out.ext hb1)
    obtain ⟨v0,v1,v2,v3,v4,⟨g0,g1,g2,g3,g4⟩,_⟩:=HR1.out.cells hlt
    have hfr0:=HR1.out.free (k*5)
    have hfr1:=HR1.out.free (k*5+1)
    have hfr2:=HR1.out.free (k*5+1+1)
    have hfr3:=HR1.out.free (k*5+1+1+1)
    have hfr4:=HR1.out.free (k*5+1+1+1+1)
    have hg1:=HR1.out.lt
    have HF:=Hi (RowN.leaf HR1.out hlt HX.out)
    have X1:=Hi (he.trans hb1)
    clear hb1 HR1
    go_wp2
    go_roundw
    case rel=>exact ⟨k+1,by omega,by go_num,HF,ext_cells5 X1.out (k*5) (k*5+1) (k*5+2) (k*5+3) (k*5+4) (.int .i64 0) (.int .i64 2) (.int .i64 0) (.string x) (.slice none 0 0) (w.heap.size+1) (by simp)⟩
    case measure=>simp [intOf];omega
  · obtain rfl:k=n:=by omega
    have HK:Hid (KidsAt 1000 0 1 wr (some ⟨w.heap.size+1,0,none⟩,k) (l.map leafS)):=Hi (RowN.done (by rw [HM.out];exact HR.out) HM.out hl (by unfold maxLen;omega) (Nat.zero_le _))
    go_wp2_with fail
    refine (list_to 1000 (by omega) 1 tag (some ⟨w.heap.size+1,0,none⟩) k (l.map leafS) HM.out _ HK.out).mono ?_
    rintro e w1 ⟨⟨M,rfl,hM⟩,hb1⟩
    obtain ⟨⟨k0,k1,k2,k3,k4⟩,hfr,hlt1⟩:=block5 (he.trans hb1)
    have f0:=hfr 0
    have f1:=hfr 1
    have f2:=hfr 2
    have f3:=hfr 3
    have f4:=hfr 4
    clear hfr
    have hwr:w.heap.size+1≤wr.heap.size:=by have:=he.size;simpa using this
    have HMK:Hid (KidsAt 1000 (w.heap.size+1) 1 w1 M (l.map leafS)):=Hi (hM.lower hwr)
    have X1:Hid (Ext w w1):=Hi (hew.out.trans hb1)
    clear hM hb1 he
    obtain ⟨s0,s1,s2,s3,s4⟩:=seen5 k0 k1 k2 k3 k4 (.int .i64 tag) (.int .i64 3) (.int .i64 0) (.string ⟨#[]⟩) (.slice M.1 k M.2)
    go_wp2
    refine bodyPost_ret (v:=.agg #[.int .i64 tag,.int .i64 3,.int .i64 0,.string ⟨#[]⟩,.slice M.1 k M.2]) (by simp [results,Tryz.results53,go_sem,s0,s1,s2,s3,s4]) rfl ⟨⟨M,by show _=Ending.returned (.agg #[.int .i64 tag,.int .i64 3,.int .i64 0,.string ⟨#[]⟩,.slice M.1 (l.map leafS).length M.2]);rw [HM.out],?_⟩,?_⟩
    · exact (kids_cells5 (g:=w.heap.size) HMK.out 0 1 2 3 4 (.int .i64 tag) (.int .i64 3) (.int .i64 0) (.string ⟨#[]⟩) (.slice M.1 k M.2) (Nat.lt_succ_self _)).lower (Nat.le_succ _)
    · exact ext_cells5 X1.out 0 1 2 3 4 (.int .i64 tag) (.int .i64 3) (.int .i64 0) (.string ⟨#[]⟩) (.slice M.1 k M.2) w.heap.size (Nat.le_refl _)

def SzOk:Nat→Nd→Prop
 | 0,x=>x.s.size≤140737488351232∧x.kids.length≤140737488351232
 | d+1,x=>(x.s.size≤140737488351232∧x.kids.length≤140737488351232)∧∀ k∈x.kids,SzOk d k
theorem SzOk.top {d:Nat} {x:Nd} (h:SzOk d x):x.s.size≤140737488351232∧x.kids.length≤140737488351232:=by
 cases d with
 | zero=>exact h
 | succ d=>exact h.1
def TyB (w:World) (A:Option Addr) (t:TypeId):Prop:=∀ a,A=some a→∃ cur,w.heap[a.block]?=some (.cells cur t (0,0))
theorem TyB.ext {w w':World} {A:Option Addr} {t:TypeId} (h:TyB w A t) (he:Ext w w'):TyB w' A t:=fun a ha=>by obtain ⟨cur,h1⟩:=h a ha;exact ⟨cur,he.blockAt h1⟩
theorem TyB.own {w:World} {base:Nat} {t:TypeId} {size n c m:Nat} {A:Option Addr} {xs:List Value} (h:w.ownsRow base t size (.slice A m c) n xs):TyB w A t:=by
 rintro a rfl
 exact own_block h a.block rfl
def isLst (x:Nd) (tag kind:Int):Bool:=x.kids.all (fun k=>isNd k 0 kind) && isNd x tag 3
theorem nds_no {p:Nd→Bool} {l:List Nd} {k:Nat} {x:Nd} (hx:l[k]?=some x) (hb:p x=false):l.all p=false:=by
 rw [List.all_eq_false]
 exact ⟨x,List.mem_of_getElem? hx,by rw [hb];simp⟩
theorem nds_next {p:Nd→Bool} {l:List Nd} {k:Nat} {x:Nd} (hx:l[k]?=some x) (h:(l.take k).all p=true) (hb:p x=true):(l.take (k+1)).all p=true:=by
 rw [List.take_add_one,hx,List.all_append,h]
 simp [hb]

theorem isNode_v1 (x : Nd) (M : Option Addr × Nat) (tag : Int) {v : Bool} (hv : isNd x tag 1 = v) (w : World) (hs : x.s.size ≤ 140737488351232) (hl : x.kids.length ≤ 140737488351232) :
    Calls Tryz.prog 136 #[.agg #[.int .i64 x.tag,.int .i64 x.kind,.int .i64 x.n,.string x.s,.slice M.1 x.kids.length M.2],.int .i64 tag,.int .i64 1] w fun e w'=>e=.returned (.bool v)∧Ext w w':=by
 subst hv;exact isNode_1 x M tag w (by omega) (by omega)
theorem isNode_v2 (x : Nd) (M : Option Addr × Nat) (tag : Int) {v : Bool} (hv : isNd x tag 2 = v) (w : World) (hs : x.s.size ≤ 140737488351232) (hl : x.kids.length ≤ 140737488351232) :
    Calls Tryz.prog 136 #[.agg #[.int .i64 x.tag,.int .i64 x.kind,.int .i64 x.n,.string x.s,.slice M.1 x.kids.length M.2],.int .i64 tag,.int .i64 2] w fun e w'=>e=.returned (.bool v)∧Ext w w':=by
 subst hv;exact isNode_2 x M tag w (by omega) (by omega)
theorem isNode_v3 (x : Nd) (M : Option Addr × Nat) (tag : Int) {v : Bool} (hv : isNd x tag 3 = v) (w : World) (hs : x.s.size ≤ 140737488351232) (hl : x.kids.length ≤ 140737488351232) :
    Calls Tryz.prog 136 #[.agg #[.int .i64 x.tag,.int .i64 x.kind,.int .i64 x.n,.string x.s,.slice M.1 x.kids.length M.2],.int .i64 tag,.int .i64 3] w fun e w'=>e=.returned (.bool v)∧Ext w w':=by
 subst hv;exact isNode_3 x M tag w (by omega) (by omega)

set_option maxRecDepth 100000 in
set_option maxHeartbeats 6400000 in
theorem isList_1 (B : Nat) (d : Nat) (x : Nd) (M : Option Addr × Nat) (tag : Int) (w : World) (hK : KidsAt B 0 (d + 1) w M x.kids) (hz : SzOk 1 x) :
    Calls Tryz.prog 137 #[nda x M,.int .i64 tag,.int .i64 1] w fun e w'=>e=.returned (.bool (isLst x tag 1))∧Ext w w':=by
 have HZ:=Hi hz
 have hs:=hz.top.1
 have hl:=hz.top.2
 have HK:=Hi hK
 clear hz hK
 obtain ⟨v,hv⟩:∃ v,isLst x tag 1=v:=⟨_,rfl⟩
 rw [hv]
 have HV:Hid (isLst x tag 1=v):=Hi hv
 clear hv
 obtain ⟨A,c⟩:=M
 unfold nda
 dsimp only
 go_enter Tryz.func137,Tryz.ntmps137
 go_wp2
 go_loopw [12] (fun i wr=>∃ k:Nat,k≤x.kids.length∧i=.int .i64 k∧Hid ((x.kids.take k).all (fun k=>isNd k 0 1)=true)∧Ext (w.alloc (.cells #[.int .i64 x.tag,.int .i64 x.kind,.int .i64 x.n,.string x.s,.slice A x.kids.length c] 52)) wr) (fun i _=>x.kids.length-(intOf i).toNat)
 case atStart=>exact ⟨0,by omega,rfl,Hi rfl,Ext.refl _⟩
 case round =>
  obtain ⟨k,hk,rfl,HA,he⟩:=hrel
  have hew:Hid (Ext w wr):=Hi (((Ext.refl w).alloc _).trans he)
  obtain ⟨⟨b0,b1,b2,b3,b4⟩,hfr,hlt0⟩:=block5 he
  clear hfr
  by_cases hlt:k<x.kids.length
  · obtain ⟨y,hy⟩:∃ y,x.kids[k]?=some y:=⟨x.kids[k],List.getElem?_eq_getElem hlt⟩
    obtain ⟨b,off,N,hA,hb,c0,c1,c2,c3,c4,hKN⟩:=(HK.out.ext hew.out).at_ hy
    dsimp only at hA
    subst hA
    have HY:=Hi hy
    have hyz:SzOk 0 y:=HZ.out.2 y (List.mem_of_getElem? hy)
    have hys:y.s.size≤140737488351232:=hyz.1
    have hyl:y.kids.length≤140737488351232:=hyz.2
    clear hy hKN hyz
    have ki0:(0:Int)≤(k:Int):=by omega
    have ki1:(k:Int)<(x.kids.length:Int):=by omega
    obtain ⟨q,hq⟩:∃ q,isNd y 0 1=q:=⟨_,rfl⟩
    have HQ:=Hi hq
    clear hq
    cases q with
    | false =>
     have HF:Hid (v=false):=Hi (by rw [← HV.out];unfold isLst;rw [nds_no HY.out HQ.out];rfl)
     go_wp2_with fail
     refine (isNode_v1 y N 0 HQ.out _ hys hyl).mono ?_
     rintro e w1 ⟨rfl,hb1⟩
     have X1:Hid (Ext w w1):=Hi ((hew.out.alloc _).trans hb1)
     go_wp2
     go_ret
     exact ⟨ret_bool HF.out.symm,X1.out⟩
    | true =>
     have HN:=Hi (nds_next (p:=fun k=>isNd k 0 1) HY.out HA.out HQ.out)
     go_wp2_with fail
     refine (isNode_v1 y N 0 HQ.out _ hys hyl).mono ?_
     rintro e w1 ⟨rfl,hb1⟩
     have X1:=Hi ((he.alloc _).trans hb1)
     clear hb1
     go_wp2
     go_roundw
     case rel=>exact ⟨k+1,by omega,by go_num,HN,X1.out⟩
     case measure=>simp [intOf];omega
  · obtain rfl:k=x.kids.length:=by omega
    have HA2:Hid (x.kids.all (fun k=>isNd k 0 1)=true):=Hi (by have:=HA.out;rwa [List.take_length] at this)
    have HF:Hid (isNd x tag 3=v):=Hi (by rw [← HV.out];unfold isLst;rw [HA2.out,Bool.true_and])
    go_wp2_with fail
    refine (isNode_v3 x (A,c) tag HF.out _ hs hl).mono ?_
    rintro e w1 ⟨rfl,hb1⟩
    have X1:Hid (Ext w w1):=Hi (hew.out.trans hb1)
    go_wp2
    go_ret
    exact ⟨rfl,X1.out⟩


set_option maxRecDepth 100000 in
set_option maxHeartbeats 6400000 in
theorem isList_2 (B : Nat) (d : Nat) (x : Nd) (M : Option Addr × Nat) (tag : Int) (w : World) (hK : KidsAt B 0 (d + 1) w M x.kids) (hz : SzOk 1 x) :
    Calls Tryz.prog 137 #[nda x M,.int .i64 tag,.int .i64 2] w fun e w'=>e=.returned (.bool (isLst x tag 2))∧Ext w w':=by
 have HZ:=Hi hz
 have hs:=hz.top.1
 have hl:=hz.top.2
 have HK:=Hi hK
 clear hz hK
 obtain ⟨v,hv⟩:∃ v,isLst x tag 2=v:=⟨_,rfl⟩
 rw [hv]
 have HV:Hid (isLst x tag 2=v):=Hi hv
 clear hv
 obtain ⟨A,c⟩:=M
 unfold nda
 dsimp only
 go_enter Tryz.func137,Tryz.ntmps137
 go_wp2
 go_loopw [12] (fun i wr=>∃ k:Nat,k≤x.kids.length∧i=.int .i64 k∧Hid ((x.kids.take k).all (fun k=>isNd k 0 2)=true)∧Ext (w.alloc (.cells #[.int .i64 x.tag,.int .i64 x.kind,.int .i64 x.n,.string x.s,.slice A x.kids.length c] 52)) wr) (fun i _=>x.kids.length-(intOf i).toNat)
 case atStart=>exact ⟨0,by omega,rfl,Hi rfl,Ext.refl _⟩
 case round =>
  obtain ⟨k,hk,rfl,HA,he⟩:=hrel
  have hew:Hid (Ext w wr):=Hi (((Ext.refl w).alloc _).trans he)
  obtain ⟨⟨b0,b1,b2,b3,b4⟩,hfr,hlt0⟩:=block5 he
  clear hfr
  by_cases hlt:k<x.kids.length
  · obtain ⟨y,hy⟩:∃ y,x.kids[k]?=some y:=⟨x.kids[k],List.getElem?_eq_getElem hlt⟩
    obtain ⟨b,off,N,hA,hb,c0,c1,c2,c3,c4,hKN⟩:=(HK.out.ext hew.out).at_ hy
    dsimp only at hA
    subst hA
    have HY:=Hi hy
    have hyz:SzOk 0 y:=HZ.out.2 y (List.mem_of_getElem? hy)
    have hys:y.s.size≤140737488351232:=hyz.1
    have hyl:y.kids.length≤140737488351232:=hyz.2
    clear hy hKN hyz
    have ki0:(0:Int)≤(k:Int):=by omega
    have ki1:(k:Int)<(x.kids.length:Int):=by omega
    obtain ⟨q,hq⟩:∃ q,isNd y 0 2=q:=⟨_,rfl⟩
    have HQ:=Hi hq
    clear hq
    cases q with
    | false =>
     have HF:Hid (v=false):=Hi (by rw [← HV.out];unfold isLst;rw [nds_no HY.out HQ.out];rfl)
     go_wp2_with fail
     refine (isNode_v2 y N 0 HQ.out _ hys hyl).mono ?_
     rintro e w1 ⟨rfl,hb1⟩
     have X1:Hid (Ext w w1):=Hi ((hew.out.alloc _).trans hb1)
     go_wp2
     go_ret
     exact ⟨ret_bool HF.out.symm,X1.out⟩
    | true =>
     have HN:=Hi (nds_next (p:=fun k=>isNd k 0 2) HY.out HA.out HQ.out)
     go_wp2_with fail
     refine (isNode_v2 y N 0 HQ.out _ hys hyl).mono ?_
     rintro e w1 ⟨rfl,hb1⟩
     have X1:=Hi ((he.alloc _).trans hb1)
     clear hb1
     go_wp2
     go_roundw
     case rel=>exact ⟨k+1,by omega,by go_num,HN,X1.out⟩
     case measure=>simp [intOf];omega
  · obtain rfl:k=x.kids.length:=by omega
    have HA2:Hid (x.kids.all (fun k=>isNd k 0 2)=true):=Hi (by have:=HA.out;rwa [List.take_length] at this)
    have HF:Hid (isNd x tag 3=v):=Hi (by rw [← HV.out];unfold isLst;rw [HA2.out,Bool.true_and])
    go_wp2_with fail
    refine (isNode_v3 x (A,c) tag HF.out _ hs hl).mono ?_
    rintro e w1 ⟨rfl,hb1⟩
    have X1:Hid (Ext w w1):=Hi (hew.out.trans hb1)
    go_wp2
    go_ret
    exact ⟨rfl,X1.out⟩


set_option maxRecDepth 100000 in
set_option maxHeartbeats 6400000 in
theorem textsOf_any (B d : Nat) (x : Nd) (M : Option Addr × Nat) (w : World) (hK : KidsAt B 0 (d + 1) w M x.kids) (hl : x.kids.length ≤ 8796093021952) :
    Calls Tryz.prog 110 #[nda x M] w fun e w'=>(∃ (A:Option Addr) (c:Nat),e=.returned (.slice A x.kids.length c)∧SlS w' A (x.kids.map Nd.s)∧x.kids.length≤c∧c≤maxLen∧TyB w' A 9)∧Ext w w':=by
 have HK:=Hi hK
 clear hK
 obtain ⟨i0,hi0,hz0,hz1,hz2⟩:=info_parts Tryz.infoStr
 obtain ⟨A,c⟩:=M
 unfold nda
 dsimp only
 go_enter Tryz.func110,Tryz.ntmps110
 go_wp2
 go_loopw [3,9] (fun l i wr=>∃ k:Nat,k≤x.kids.length∧i=.int .i64 k∧Hid (wr.ownsRow (w.heap.size+1) 9 1 l k ((x.kids.take k).map fun y=>Value.string y.s))∧Ext (w.alloc (.cells #[.int .i64 x.tag,.int .i64 x.kind,.int .i64 x.n,.string x.s,.slice A x.kids.length c] 52)) wr) (fun _ i _=>x.kids.length-(intOf i).toNat)
 case atStart=>exact ⟨0,by omega,rfl,Hi (own_nil _ _ _ _),Ext.refl _⟩
 case round =>
  obtain ⟨k,hk,rfl,HO,he⟩:=hrel
  have hew:Hid (Ext w wr):=Hi (((Ext.refl w).alloc _).trans he)
  have hwr:w.heap.size+1≤wr.heap.size:=by have:=he.size;simpa using this
  by_cases hlt:k<x.kids.length
  · obtain ⟨y,hy⟩:∃ y,x.kids[k]?=some y:=⟨x.kids[k],List.getElem?_eq_getElem hlt⟩
    obtain ⟨b,off,N,hA,hb,c0,c1,c2,c3,c4,hKN⟩:=(HK.out.ext hew.out).at_ hy
    dsimp only at hA
    subst hA
    have HT:Hid ((x.kids.take (k+1)).map (fun y=>Value.string y.s)=(x.kids.take k).map (fun y=>Value.string y.s) ++ [Value.string y.s]):=Hi (by rw [List.take_add_one,hy,List.map_append];rfl)
    clear hy hKN
    have ki0:(0:Int)≤(k:Int):=by omega
    have ki1:(k:Int)<(x.kids.length:Int):=by omega
    obtain ⟨A1,c5,rfl⟩:=own_form HO.out
    go_wp2_with (at_builtin;refine wpList_append_lies _ rfl _ _ 42 rfl (w.heap.size+1) 9 i0 (.string ⟨#[]⟩) 1 16 Tryz.underlying42 hi0 hz0 hz1 hz2 rfl (by decide) _ _ _ rfl ((HO.out.alloc _).alloc _) ⟨wr.heap.size+1,0,none⟩ 1 1 [Value.string y.s] rfl rfl (World.news_of_block (heap_new_at _ _ _ (by simp))) (by simp [Value.oneCell']) (by decide) (by unfold maxLen;omega) (by omega) (by simp;omega) (wr.heap.size+1+1) (by simp) ?_;intro gg cap w2 hown2 hgrow2 hat hlt2)
    have HO2:Hid (w2.ownsRow (w.heap.size+1) 9 1 (.slice (some ⟨gg,0,none⟩) (k+1) cap) (k+1) ((x.kids.take (k+1)).map fun y=>Value.string y.s)):=Hi (by rw [HT.out];exact hown2)
    have X2:=Hi (((he.alloc _).alloc _).grown hgrow2 (fun q hq=>by have:=own_ge HO.out q hq;simp;omega))
    clear hown2 hgrow2 hat
    go_wp2
    go_roundw
    case rel=>exact ⟨k+1,by omega,by go_num,HO2,X2.out⟩
    case measure=>simp [intOf];omega
  · obtain rfl:k=x.kids.length:=by omega
    obtain ⟨A1,c5,rfl⟩:=own_form HO.out
    have HO3:Hid (wr.ownsRow (w.heap.size+1) 9 1 (.slice A1 x.kids.length c5) x.kids.length (x.kids.map fun y=>Value.string y.s)):=Hi (by have:=HO.out;rwa [List.take_length] at this)
    obtain ⟨A2,c6,e,h1,h2,h3⟩:=(show RowS (w.heap.size+1) (x.kids.map Nd.s) wr (.slice A1 x.kids.length c5) from by unfold RowS;rw [List.length_map,List.map_map];exact HO3.out).sl
    rw [List.length_map] at h1
    simp at e
    obtain ⟨rfl,rfl⟩:=e
    go_wp2
    go_ret
    exact ⟨⟨A1,c5,rfl,h3,h1,h2,TyB.own HO3.out⟩,hew.out⟩


set_option maxRecDepth 100000 in
set_option maxHeartbeats 6400000 in
theorem numbersOf_any (B d : Nat) (x : Nd) (M : Option Addr × Nat) (w : World) (hK : KidsAt B 0 (d + 1) w M x.kids) (hl : x.kids.length ≤ 8796093021952) :
    Calls Tryz.prog 111 #[nda x M] w fun e w'=>(∃ (A:Option Addr) (c:Nat),e=.returned (.slice A x.kids.length c)∧SlI w' A (x.kids.map Nd.n)∧x.kids.length≤c∧c≤maxLen∧TyB w' A 3)∧Ext w w':=by
 have HK:=Hi hK
 clear hK
 obtain ⟨i0,hi0,hz0,hz1,hz2⟩:=info_parts Tryz.infoInt
 obtain ⟨A,c⟩:=M
 unfold nda
 dsimp only
 go_enter Tryz.func111,Tryz.ntmps111
 go_wp2
 go_loopw [3,9] (fun l i wr=>∃ k:Nat,k≤x.kids.length∧i=.int .i64 k∧Hid (wr.ownsRow (w.heap.size+1) 3 1 l k ((x.kids.take k).map fun y=>Value.int .i64 y.n))∧Ext (w.alloc (.cells #[.int .i64 x.tag,.int .i64 x.kind,.int .i64 x.n,.string x.s,.slice A x.kids.length c] 52)) wr) (fun _ i _=>x.kids.length-(intOf i).toNat)
 case atStart=>exact ⟨0,by omega,rfl,Hi (own_nil _ _ _ _),Ext.refl _⟩
 case round =>
  obtain ⟨k,hk,rfl,HO,he⟩:=hrel
  have hew:Hid (Ext w wr):=Hi (((Ext.refl w).alloc _).trans he)
  have hwr:w.heap.size+1≤wr.heap.size:=by have:=he.size;simpa using this
  by_cases hlt:k<x.kids.length
  · obtain ⟨y,hy⟩:∃ y,x.kids[k]?=some y:=⟨x.kids[k],List.getElem?_eq_getElem hlt⟩
    obtain ⟨b,off,N,hA,hb,c0,c1,c2,c3,c4,hKN⟩:=(HK.out.ext hew.out).at_ hy
    dsimp only at hA
    subst hA
    have HT:Hid ((x.kids.take (k+1)).map (fun y=>Value.int .i64 y.n)=(x.kids.take k).map (fun y=>Value.int .i64 y.n) ++ [Value.int .i64 y.n]):=Hi (by rw [List.take_add_one,hy,List.map_append];rfl)
    clear hy hKN
    have ki0:(0:Int)≤(k:Int):=by omega
    have ki1:(k:Int)<(x.kids.length:Int):=by omega
    obtain ⟨A1,c5,rfl⟩:=own_form HO.out
    go_wp2_with (at_builtin;refine wpList_append_lies _ rfl _ _ 43 rfl (w.heap.size+1) 3 i0 (.int .i64 0) 1 8 Tryz.underlying43 hi0 hz0 hz1 hz2 rfl (by decide) _ _ _ rfl ((HO.out.alloc _).alloc _) ⟨wr.heap.size+1,0,none⟩ 1 1 [Value.int .i64 y.n] rfl rfl (World.news_of_block (heap_new_at _ _ _ (by simp))) (by simp [Value.oneCell']) (by decide) (by unfold maxLen;omega) (by omega) (by simp;omega) (wr.heap.size+1+1) (by simp) ?_;intro gg cap w2 hown2 hgrow2 hat hlt2)
    have HO2:Hid (w2.ownsRow (w.heap.size+1) 3 1 (.slice (some ⟨gg,0,none⟩) (k+1) cap) (k+1) ((x.kids.take (k+1)).map fun y=>Value.int .i64 y.n)):=Hi (by rw [HT.out];exact hown2)
    have X2:=Hi (((he.alloc _).alloc _).grown hgrow2 (fun q hq=>by have:=own_ge HO.out q hq;simp;omega))
    clear hown2 hgrow2 hat
    go_wp2
    go_roundw
    case rel=>exact ⟨k+1,by omega,by go_num,HO2,X2.out⟩
    case measure=>simp [intOf];omega
  · obtain rfl:k=x.kids.length:=by omega
    obtain ⟨A1,c5,rfl⟩:=own_form HO.out
    have HO3:Hid (wr.ownsRow (w.heap.size+1) 3 1 (.slice A1 x.kids.length c5) x.kids.length (x.kids.map fun y=>Value.int .i64 y.n)):=Hi (by have:=HO.out;rwa [List.take_length] at this)
    obtain ⟨A2,c6,e,h1,h2,h3⟩:=(SlI.of_own (xs:=x.kids.map Nd.n) (n:=x.kids.length) (v:=.slice A1 x.kids.length c5) (by rw [List.map_map];exact HO3.out))
    rw [List.length_map] at h1
    simp at e
    obtain ⟨rfl,rfl⟩:=e
    go_wp2
    go_ret
    exact ⟨⟨A1,c5,rfl,h3,h1,h2,TyB.own HO3.out⟩,hew.out⟩

def fldOk:Nat→Nd→Bool
 | 0,x=>isNd x 1 1
 | 1,x=>isNd x 2 1
 | 2,x=>isNd x 3 1
 | 3,x=>isNd x 4 2
 | 4,x=>isLst x 5 2
 | 5,x=>isLst x 6 1
 | 6,x=>isNd x 7 1
 | 7,x=>isNd x 8 1
 | 8,x=>isLst x 9 2
 | 9,x=>isNd x 10 1
 | 10,x=>isNd x 11 2
 | 11,x=>isNd x 12 1
 | 12,x=>isNd x 13 1
 | 13,x=>isNd x 14 1
 | 14,x=>isNd x 15 1
 | 15,x=>isLst x 16 1
 | 16,x=>isNd x 17 1
 | _,_=>false
def isTr (x:Nd):Bool:=isNd x 14 3 && (decide (x.kids.length=17) && It.allN (fun i=>fldOk i (x.kids.getD i default)) 17)
theorem isList_v1 (B : Nat) (d : Nat) (x : Nd) (M : Option Addr × Nat) (tag : Int) {v : Bool} (hv : isLst x tag 1 = v) (w : World) (hK : KidsAt B 0 (d + 1) w M x.kids) (hz : SzOk 1 x) :
    Calls Tryz.prog 137 #[.agg #[.int .i64 x.tag,.int .i64 x.kind,.int .i64 x.n,.string x.s,.slice M.1 x.kids.length M.2],.int .i64 tag,.int .i64 1] w fun e w'=>e=.returned (.bool v)∧Ext w w':=by
 subst hv;exact isList_1 B d x M tag w hK hz
theorem isList_v2 (B : Nat) (d : Nat) (x : Nd) (M : Option Addr × Nat) (tag : Int) {v : Bool} (hv : isLst x tag 2 = v) (w : World) (hK : KidsAt B 0 (d + 1) w M x.kids) (hz : SzOk 1 x) :
    Calls Tryz.prog 137 #[.agg #[.int .i64 x.tag,.int .i64 x.kind,.int .i64 x.n,.string x.s,.slice M.1 x.kids.length M.2],.int .i64 tag,.int .i64 2] w fun e w'=>e=.returned (.bool v)∧Ext w w':=by
 subst hv;exact isList_2 B d x M tag w hK hz
set_option maxRecDepth 100000 in
set_option maxHeartbeats 12800000 in
theorem isTree_any (B d : Nat) (x : Nd) (M : Option Addr × Nat) (w : World) (hK : KidsAt B 0 (d + 2) w M x.kids) (hz : SzOk 2 x) :
    Calls Tryz.prog 108 #[nda x M] w fun e w'=>e=.returned (.bool (isTr x))∧Ext w w':=by
 have HZ:=Hi hz
 have hs:=hz.top.1
 have hl:=hz.top.2
 have HK:=Hi hK
 clear hz hK
 obtain ⟨v,hv⟩:∃ v,isTr x=v:=⟨_,rfl⟩
 rw [hv]
 have HV:Hid (isTr x=v):=Hi hv
 clear hv
 obtain ⟨q1,hq1⟩:∃ q,isNd x 14 3=q:=⟨_,rfl⟩
 have HQ1:=Hi hq1
 clear hq1
 obtain ⟨A,c⟩:=M
 unfold nda
 dsimp only
 go_enter Tryz.func108,Tryz.ntmps108
 go_wp2_with fail
 refine (isNode_v3 x (A,c) 14 HQ1.out _ hs hl).mono ?_
 rintro e w1 ⟨rfl,hb1⟩
 obtain ⟨⟨b0,b1,b2,b3,b4⟩,hfr,hlt0⟩:=block5 hb1
 have X1:Hid (Ext w w1):=Hi (((Ext.refl w).alloc _).trans hb1)
 clear hfr hb1
 cases q1 with
 | false =>
  have HF:Hid (v=false):=Hi (by rw [← HV.out];unfold isTr;rw [HQ1.out];rfl)
  go_wp2
  go_ret
  exact ⟨ret_bool HF.out.symm,X1.out⟩
 | true =>
 by_cases h17:x.kids.length=17
 case neg =>
  have HF:Hid (v=false):=Hi (by rw [← HV.out];unfold isTr;rw [decide_eq_false h17];simp)
  have e17:((x.kids.length:Int) != 17)=true:=by rw [bne_iff_ne];omega
  clear h17
  go_wp2
  go_ret
  exact ⟨ret_bool HF.out.symm,X1.out⟩
 have HV2:Hid (It.allN (fun i=>fldOk i (x.kids.getD i default)) 17=v):=Hi (by rw [← HV.out];unfold isTr;rw [HQ1.out,decide_eq_true h17];rfl)
 have e17:((x.kids.length:Int) != 17)=false:=by rw [h17];rfl
 have H17:=Hi h17
 have hn1:x.kids.length≤17:=by omega
 have hn2:17≤x.kids.length:=by omega
 clear h17
 go_wp2
 go_loopw [18] (fun i wr=>∃ k:Nat,k≤x.kids.length∧i=.int .i64 k∧Hid (It.allN (fun i=>fldOk i (x.kids.getD i default)) k=true)∧Ext w1 wr) (fun i _=>x.kids.length-(intOf i).toNat)
 case atStart=>exact ⟨0,by omega,rfl,Hi rfl,Ext.refl _⟩
 case round =>
  obtain ⟨k,hk,rfl,HA,he⟩:=hrel
  have hew:Hid (Ext w wr):=Hi (X1.out.trans he)
  by_cases hlt:k<x.kids.length
  · have hlt17:k<17:=by omega
    obtain ⟨y,hy⟩:∃ y,x.kids[k]?=some y:=⟨x.kids[k],List.getElem?_eq_getElem hlt⟩
    obtain ⟨b,off,N,hA,hb,c0,c1,c2,c3,c4,hKN⟩:=(HK.out.ext hew.out).at_ hy
    dsimp only at hA
    subst hA
    have HKN:=Hi hKN
    have hyz:SzOk 1 y:=HZ.out.2 y (List.mem_of_getElem? hy)
    have HYZ:=Hi hyz
    have hys:y.s.size≤140737488351232:=hyz.1.1
    have hyl:y.kids.length≤140737488351232:=hyz.1.2
    have hyd:x.kids.getD k default=y:=by rw [List.getD_eq_getElem?_getD,hy];rfl
    obtain ⟨q,hq⟩:∃ q,fldOk k y=q:=⟨_,rfl⟩
    have HQ:=Hi hq
    have HE:Hid (q=false→v=false):=Hi fun g=>by rw [← HV2.out];exact It.allN_no hlt17 (by show fldOk k (x.kids.getD k default)=false;rw [hyd,hq,g])
    have HN:Hid (q=true→It.allN (fun i=>fldOk i (x.kids.getD i default)) (k+1)=true):=Hi fun g=>It.allN_next HA.out (by show fldOk k (x.kids.getD k default)=true;rw [hyd,hq,g])
    clear hy hKN hyz hyd hq
    rcases (show k=0∨k=1∨k=2∨k=3∨k=4∨k=5∨k=6∨k=7∨k=8∨k=9∨k=10∨k=11∨k=12∨k=13∨k=14∨k=15∨k=16 by omega) with rfl | rfl | rfl | rfl | rfl | rfl | rfl | rfl | rfl | rfl | rfl | rfl | rfl | rfl | rfl | rfl | rfl
    · have d0:wr.cell? ⟨b,off,none⟩=some (.int .i64 y.tag):=c0
      have d1:wr.cell? ⟨b,off+1,none⟩=some (.int .i64 y.kind):=c1
      have d2:wr.cell? ⟨b,off+2,none⟩=some (.int .i64 y.n):=c2
      have d3:wr.cell? ⟨b,off+3,none⟩=some (.string y.s):=c3
      have d4:wr.cell? ⟨b,off+4,none⟩=some (.slice N.1 y.kids.length N.2):=c4
      clear c0 c1 c2 c3 c4
      have ki1:(0:Int)<(x.kids.length:Int):=by omega
      have HQ2:Hid (isNd y 1 1=q):=Hi HQ.out
      cases q with
      | false =>
       have HF:=Hi (HE.out rfl)
       go_wp2_with fail
       refine (isNode_v1 y N 1 HQ2.out _ hys hyl).mono ?_
       rintro e w2 ⟨rfl,hb2⟩
       have X2:Hid (Ext w w2):=Hi ((hew.out.alloc _).trans hb2)
       clear hb2
       go_wp2
       go_ret
       exact ⟨ret_bool HF.out.symm,X2.out⟩
      | true =>
       have HM:=Hi (HN.out rfl)
       go_wp2_with fail
       refine (isNode_v1 y N 1 HQ2.out _ hys hyl).mono ?_
       rintro e w2 ⟨rfl,hb2⟩
       have X2:=Hi ((he.alloc _).trans hb2)
       clear hb2
       go_wp2
       go_roundw
       case rel=>exact ⟨0+1,by omega,by go_num,HM,X2.out⟩
       case measure=>simp [intOf];omega
    · have d0:wr.cell? ⟨b,off+5,none⟩=some (.int .i64 y.tag):=c0
      have d1:wr.cell? ⟨b,off+6,none⟩=some (.int .i64 y.kind):=c1
      have d2:wr.cell? ⟨b,off+7,none⟩=some (.int .i64 y.n):=c2
      have d3:wr.cell? ⟨b,off+8,none⟩=some (.string y.s):=c3
      have d4:wr.cell? ⟨b,off+9,none⟩=some (.slice N.1 y.kids.length N.2):=c4
      clear c0 c1 c2 c3 c4
      have ki1:(1:Int)<(x.kids.length:Int):=by omega
      have HQ2:Hid (isNd y 2 1=q):=Hi HQ.out
      cases q with
      | false =>
       have HF:=Hi (HE.out rfl)
       go_wp2_with fail
       refine (isNode_v1 y N 2 HQ2.out _ hys hyl).mono ?_
       rintro e w2 ⟨rfl,hb2⟩
       have X2:Hid (Ext w w2):=Hi ((hew.out.alloc _).trans hb2)
       clear hb2
       go_wp2
       go_ret
       exact ⟨ret_bool HF.out.symm,X2.out⟩
      | true =>
       have HM:=Hi (HN.out rfl)
       go_wp2_with fail
       refine (isNode_v1 y N 2 HQ2.out _ hys hyl).mono ?_
       rintro e w2 ⟨rfl,hb2⟩
       have X2:=Hi ((he.alloc _).trans hb2)
       clear hb2
       go_wp2
       go_roundw
       case rel=>exact ⟨1+1,by omega,by go_num,HM,X2.out⟩
       case measure=>simp [intOf];omega
    · have d0:wr.cell? ⟨b,off+10,none⟩=some (.int .i64 y.tag):=c0
      have d1:wr.cell? ⟨b,off+11,none⟩=some (.int .i64 y.kind):=c1
      have d2:wr.cell? ⟨b,off+12,none⟩=some (.int .i64 y.n):=c2
      have d3:wr.cell? ⟨b,off+13,none⟩=some (.string y.s):=c3
      have d4:wr.cell? ⟨b,off+14,none⟩=some (.slice N.1 y.kids.length N.2):=c4
      clear c0 c1 c2 c3 c4
      have ki1:(2:Int)<(x.kids.length:Int):=by omega
      have HQ2:Hid (isNd y 3 1=q):=Hi HQ.out
      cases q with
      | false =>
       have HF:=Hi (HE.out rfl)
       go_wp2_with fail
       refine (isNode_v1 y N 3 HQ2.out _ hys hyl).mono ?_
       rintro e w2 ⟨rfl,hb2⟩
       have X2:Hid (Ext w w2):=Hi ((hew.out.alloc _).trans hb2)
       clear hb2
       go_wp2
       go_ret
       exact ⟨ret_bool HF.out.symm,X2.out⟩
      | true =>
       have HM:=Hi (HN.out rfl)
       go_wp2_with fail
       refine (isNode_v1 y N 3 HQ2.out _ hys hyl).mono ?_
       rintro e w2 ⟨rfl,hb2⟩
       have X2:=Hi ((he.alloc _).trans hb2)
       clear hb2
       go_wp2
       go_roundw
       case rel=>exact ⟨2+1,by omega,by go_num,HM,X2.out⟩
       case measure=>simp [intOf];omega
    · have d0:wr.cell? ⟨b,off+15,none⟩=some (.int .i64 y.tag):=c0
      have d1:wr.cell? ⟨b,off+16,none⟩=some (.int .i64 y.kind):=c1
      have d2:wr.cell? ⟨b,off+17,none⟩=some (.int .i64 y.n):=c2
      have d3:wr.cell? ⟨b,off+18,none⟩=some (.string y.s):=c3
      have d4:wr.cell? ⟨b,off+19,none⟩=some (.slice N.1 y.kids.length N.2):=c4
      clear c0 c1 c2 c3 c4
      have ki1:(3:Int)<(x.kids.length:Int):=by omega
      have HQ2:Hid (isNd y 4 2=q):=Hi HQ.out
      cases q with
      | false =>
       have HF:=Hi (HE.out rfl)
       go_wp2_with fail
       refine (isNode_v2 y N 4 HQ2.out _ hys hyl).mono ?_
       rintro e w2 ⟨rfl,hb2⟩
       have X2:Hid (Ext w w2):=Hi ((hew.out.alloc _).trans hb2)
       clear hb2
       go_wp2
       go_ret
       exact ⟨ret_bool HF.out.symm,X2.out⟩
      | true =>
       have HM:=Hi (HN.out rfl)
       go_wp2_with fail
       refine (isNode_v2 y N 4 HQ2.out _ hys hyl).mono ?_
       rintro e w2 ⟨rfl,hb2⟩
       have X2:=Hi ((he.alloc _).trans hb2)
       clear hb2
       go_wp2
       go_roundw
       case rel=>exact ⟨3+1,by omega,by go_num,HM,X2.out⟩
       case measure=>simp [intOf];omega
    · have d0:wr.cell? ⟨b,off+20,none⟩=some (.int .i64 y.tag):=c0
      have d1:wr.cell? ⟨b,off+21,none⟩=some (.int .i64 y.kind):=c1
      have d2:wr.cell? ⟨b,off+22,none⟩=some (.int .i64 y.n):=c2
      have d3:wr.cell? ⟨b,off+23,none⟩=some (.string y.s):=c3
      have d4:wr.cell? ⟨b,off+24,none⟩=some (.slice N.1 y.kids.length N.2):=c4
      clear c0 c1 c2 c3 c4
      have ki1:(4:Int)<(x.kids.length:Int):=by omega
      have HQ2:Hid (isLst y 5 2=q):=Hi HQ.out
      cases q with
      | false =>
       have HF:=Hi (HE.out rfl)
       go_wp2_with fail
       refine (isList_v2 B d y N 5 HQ2.out _ (HKN.out.ext ((Ext.refl _).alloc _)) HYZ.out).mono ?_
       rintro e w2 ⟨rfl,hb2⟩
       have X2:Hid (Ext w w2):=Hi ((hew.out.alloc _).trans hb2)
       clear hb2
       go_wp2
       go_ret
       exact ⟨ret_bool HF.out.symm,X2.out⟩
      | true =>
       have HM:=Hi (HN.out rfl)
       go_wp2_with fail
       refine (isList_v2 B d y N 5 HQ2.out _ (HKN.out.ext ((Ext.refl _).alloc _)) HYZ.out).mono ?_
       rintro e w2 ⟨rfl,hb2⟩
       have X2:=Hi ((he.alloc _).trans hb2)
       clear hb2
       go_wp2
       go_roundw
       case rel=>exact ⟨4+1,by omega,by go_num,HM,X2.out⟩
       case measure=>simp [intOf];omega
    · have d0:wr.cell? ⟨b,off+25,none⟩=some (.int .i64 y.tag):=c0
      have d1:wr.cell? ⟨b,off+26,none⟩=some (.int .i64 y.kind):=c1
      have d2:wr.cell? ⟨b,off+27,none⟩=some (.int .i64 y.n):=c2
      have d3:wr.cell? ⟨b,off+28,none⟩=some (.string y.s):=c3
      have d4:wr.cell? ⟨b,off+29,none⟩=some (.slice N.1 y.kids.length N.2):=c4
      clear c0 c1 c2 c3 c4
      have ki1:(5:Int)<(x.kids.length:Int):=by omega
      have HQ2:Hid (isLst y 6 1=q):=Hi HQ.out
      cases q with
      | false =>
       have HF:=Hi (HE.out rfl)
       go_wp2_with fail
       refine (isList_v1 B d y N 6 HQ2.out _ (HKN.out.ext ((Ext.refl _).alloc _)) HYZ.out).mono ?_
       rintro e w2 ⟨rfl,hb2⟩
       have X2:Hid (Ext w w2):=Hi ((hew.out.alloc _).trans hb2)
       clear hb2
       go_wp2
       go_ret
       exact ⟨ret_bool HF.out.symm,X2.out⟩
      | true =>
       have HM:=Hi (HN.out rfl)
       go_wp2_with fail
       refine (isList_v1 B d y N 6 HQ2.out _ (HKN.out.ext ((Ext.refl _).alloc _)) HYZ.out).mono ?_
       rintro e w2 ⟨rfl,hb2⟩
       have X2:=Hi ((he.alloc _).trans hb2)
       clear hb2
       go_wp2
       go_roundw
       case rel=>exact ⟨5+1,by omega,by go_num,HM,X2.out⟩
       case measure=>simp [intOf];omega
    · have d0:wr.cell? ⟨b,off+30,none⟩=some (.int .i64 y.tag):=c0
      have d1:wr.cell? ⟨b,off+31,none⟩=some (.int .i64 y.kind):=c1
      have d2:wr.cell? ⟨b,off+32,none⟩=some (.int .i64 y.n):=c2
      have d3:wr.cell? ⟨b,off+33,none⟩=some (.string y.s):=c3
      have d4:wr.cell? ⟨b,off+34,none⟩=some (.slice N.1 y.kids.length N.2):=c4
      clear c0 c1 c2 c3 c4
      have ki1:(6:Int)<(x.kids.length:Int):=by omega
      have HQ2:Hid (isNd y 7 1=q):=Hi HQ.out
      cases q with
      | false =>
       have HF:=Hi (HE.out rfl)
       go_wp2_with fail
       refine (isNode_v1 y N 7 HQ2.out _ hys hyl).mono ?_
       rintro e w2 ⟨rfl,hb2⟩
       have X2:Hid (Ext w w2):=Hi ((hew.out.alloc _).trans hb2)
       clear hb2
       go_wp2
       go_ret
       exact ⟨ret_bool HF.out.symm,X2.out⟩
      | true =>
       have HM:=Hi (HN.out rfl)
       go_wp2_with fail
       refine (isNode_v1 y N 7 HQ2.out _ hys hyl).mono ?_
       rintro e w2 ⟨rfl,hb2⟩
       have X2:=Hi ((he.alloc _).trans hb2)
       clear hb2
       go_wp2
       go_roundw
       case rel=>exact ⟨6+1,by omega,by go_num,HM,X2.out⟩
       case measure=>simp [intOf];omega
    · have d0:wr.cell? ⟨b,off+35,none⟩=some (.int .i64 y.tag):=c0
      have d1:wr.cell? ⟨b,off+36,none⟩=some (.int .i64 y.kind):=c1
      have d2:wr.cell? ⟨b,off+37,none⟩=some (.int .i64 y.n):=c2
      have d3:wr.cell? ⟨b,off+38,none⟩=some (.string y.s):=c3
      have d4:wr.cell? ⟨b,off+39,none⟩=some (.slice N.1 y.kids.length N.2):=c4
      clear c0 c1 c2 c3 c4
      have ki1:(7:Int)<(x.kids.length:Int):=by omega
      have HQ2:Hid (isNd y 8 1=q):=Hi HQ.out
      cases q with
      | false =>
       have HF:=Hi (HE.out rfl)
       go_wp2_with fail
       refine (isNode_v1 y N 8 HQ2.out _ hys hyl).mono ?_
       rintro e w2 ⟨rfl,hb2⟩
       have X2:Hid (Ext w w2):=Hi ((hew.out.alloc _).trans hb2)
       clear hb2
       go_wp2
       go_ret
       exact ⟨ret_bool HF.out.symm,X2.out⟩
      | true =>
       have HM:=Hi (HN.out rfl)
       go_wp2_with fail
       refine (isNode_v1 y N 8 HQ2.out _ hys hyl).mono ?_
       rintro e w2 ⟨rfl,hb2⟩
       have X2:=Hi ((he.alloc _).trans hb2)
       clear hb2
       go_wp2
       go_roundw
       case rel=>exact ⟨7+1,by omega,by go_num,HM,X2.out⟩
       case measure=>simp [intOf];omega
    · have d0:wr.cell? ⟨b,off+40,none⟩=some (.int .i64 y.tag):=c0
      have d1:wr.cell? ⟨b,off+41,none⟩=some (.int .i64 y.kind):=c1
      have d2:wr.cell? ⟨b,off+42,none⟩=some (.int .i64 y.n):=c2
      have d3:wr.cell? ⟨b,off+43,none⟩=some (.string y.s):=c3
      have d4:wr.cell? ⟨b,off+44,none⟩=some (.slice N.1 y.kids.length N.2):=c4
      clear c0 c1 c2 c3 c4
      have ki1:(8:Int)<(x.kids.length:Int):=by omega
      have HQ2:Hid (isLst y 9 2=q):=Hi HQ.out
      cases q with
      | false =>
       have HF:=Hi (HE.out rfl)
       go_wp2_with fail
       refine (isList_v2 B d y N 9 HQ2.out _ (HKN.out.ext ((Ext.refl _).alloc _)) HYZ.out).mono ?_
       rintro e w2 ⟨rfl,hb2⟩
       have X2:Hid (Ext w w2):=Hi ((hew.out.alloc _).trans hb2)
       clear hb2
       go_wp2
       go_ret
       exact ⟨ret_bool HF.out.symm,X2.out⟩
      | true =>
       have HM:=Hi (HN.out rfl)
       go_wp2_with fail
       refine (isList_v2 B d y N 9 HQ2.out _ (HKN.out.ext ((Ext.refl _).alloc _)) HYZ.out).mono ?_
       rintro e w2 ⟨rfl,hb2⟩
       have X2:=Hi ((he.alloc _).trans hb2)
       clear hb2
       go_wp2
       go_roundw
       case rel=>exact ⟨8+1,by omega,by go_num,HM,X2.out⟩
       case measure=>simp [intOf];omega
    · have d0:wr.cell? ⟨b,off+45,none⟩=some (.int .i64 y.tag):=c0
      have d1:wr.cell? ⟨b,off+46,none⟩=some (.int .i64 y.kind):=c1
      have d2:wr.cell? ⟨b,off+47,none⟩=some (.int .i64 y.n):=c2
      have d3:wr.cell? ⟨b,off+48,none⟩=some (.string y.s):=c3
      have d4:wr.cell? ⟨b,off+49,none⟩=some (.slice N.1 y.kids.length N.2):=c4
      clear c0 c1 c2 c3 c4
      have ki1:(9:Int)<(x.kids.length:Int):=by omega
      have HQ2:Hid (isNd y 10 1=q):=Hi HQ.out
      cases q with
      | false =>
       have HF:=Hi (HE.out rfl)
       go_wp2_with fail
       refine (isNode_v1 y N 10 HQ2.out _ hys hyl).mono ?_
       rintro e w2 ⟨rfl,hb2⟩
       have X2:Hid (Ext w w2):=Hi ((hew.out.alloc _).trans hb2)
       clear hb2
       go_wp2
       go_ret
       exact ⟨ret_bool HF.out.symm,X2.out⟩
      | true =>
       have HM:=Hi (HN.out rfl)
       go_wp2_with fail
       refine (isNode_v1 y N 10 HQ2.out _ hys hyl).mono ?_
       rintro e w2 ⟨rfl,hb2⟩
       have X2:=Hi ((he.alloc _).trans hb2)
       clear hb2
       go_wp2
       go_roundw
       case rel=>exact ⟨9+1,by omega,by go_num,HM,X2.out⟩
       case measure=>simp [intOf];omega
    · have d0:wr.cell? ⟨b,off+50,none⟩=some (.int .i64 y.tag):=c0
      have d1:wr.cell? ⟨b,off+51,none⟩=some (.int .i64 y.kind):=c1
      have d2:wr.cell? ⟨b,off+52,none⟩=some (.int .i64 y.n):=c2
      have d3:wr.cell? ⟨b,off+53,none⟩=some (.string y.s):=c3
      have d4:wr.cell? ⟨b,off+54,none⟩=some (.slice N.1 y.kids.length N.2):=c4
      clear c0 c1 c2 c3 c4
      have ki1:(10:Int)<(x.kids.length:Int):=by omega
      have HQ2:Hid (isNd y 11 2=q):=Hi HQ.out
      cases q with
      | false =>
       have HF:=Hi (HE.out rfl)
       go_wp2_with fail
       refine (isNode_v2 y N 11 HQ2.out _ hys hyl).mono ?_
       rintro e w2 ⟨rfl,hb2⟩
       have X2:Hid (Ext w w2):=Hi ((hew.out.alloc _).trans hb2)
       clear hb2
       go_wp2
       go_ret
       exact ⟨ret_bool HF.out.symm,X2.out⟩
      | true =>
       have HM:=Hi (HN.out rfl)
       go_wp2_with fail
       refine (isNode_v2 y N 11 HQ2.out _ hys hyl).mono ?_
       rintro e w2 ⟨rfl,hb2⟩
       have X2:=Hi ((he.alloc _).trans hb2)
       clear hb2
       go_wp2
       go_roundw
       case rel=>exact ⟨10+1,by omega,by go_num,HM,X2.out⟩
       case measure=>simp [intOf];omega
    · have d0:wr.cell? ⟨b,off+55,none⟩=some (.int .i64 y.tag):=c0
      have d1:wr.cell? ⟨b,off+56,none⟩=some (.int .i64 y.kind):=c1
      have d2:wr.cell? ⟨b,off+57,none⟩=some (.int .i64 y.n):=c2
      have d3:wr.cell? ⟨b,off+58,none⟩=some (.string y.s):=c3
      have d4:wr.cell? ⟨b,off+59,none⟩=some (.slice N.1 y.kids.length N.2):=c4
      clear c0 c1 c2 c3 c4
      have ki1:(11:Int)<(x.kids.length:Int):=by omega
      have HQ2:Hid (isNd y 12 1=q):=Hi HQ.out
      cases q with
      | false =>
       have HF:=Hi (HE.out rfl)
       go_wp2_with fail
       refine (isNode_v1 y N 12 HQ2.out _ hys hyl).mono ?_
       rintro e w2 ⟨rfl,hb2⟩
       have X2:Hid (Ext w w2):=Hi ((hew.out.alloc _).trans hb2)
       clear hb2
       go_wp2
       go_ret
       exact ⟨ret_bool HF.out.symm,X2.out⟩
      | true =>
       have HM:=Hi (HN.out rfl)
       go_wp2_with fail
       refine (isNode_v1 y N 12 HQ2.out _ hys hyl).mono ?_
       rintro e w2 ⟨rfl,hb2⟩
       have X2:=Hi ((he.alloc _).trans hb2)
       clear hb2
       go_wp2
       go_roundw
       case rel=>exact ⟨11+1,by omega,by go_num,HM,X2.out⟩
       case measure=>simp [intOf];omega
    · have d0:wr.cell? ⟨b,off+60,none⟩=some (.int .i64 y.tag):=c0
      have d1:wr.cell? ⟨b,off+61,none⟩=some (.int .i64 y.kind):=c1
      have d2:wr.cell? ⟨b,off+62,none⟩=some (.int .i64 y.n):=c2
      have d3:wr.cell? ⟨b,off+63,none⟩=some (.string y.s):=c3
      have d4:wr.cell? ⟨b,off+64,none⟩=some (.slice N.1 y.kids.length N.2):=c4
      clear c0 c1 c2 c3 c4
      have ki1:(12:Int)<(x.kids.length:Int):=by omega
      have HQ2:Hid (isNd y 13 1=q):=Hi HQ.out
      cases q with
      | false =>
       have HF:=Hi (HE.out rfl)
       go_wp2_with fail
       refine (isNode_v1 y N 13 HQ2.out _ hys hyl).mono ?_
       rintro e w2 ⟨rfl,hb2⟩
       have X2:Hid (Ext w w2):=Hi ((hew.out.alloc _).trans hb2)
       clear hb2
       go_wp2
       go_ret
       exact ⟨ret_bool HF.out.symm,X2.out⟩
      | true =>
       have HM:=Hi (HN.out rfl)
       go_wp2_with fail
       refine (isNode_v1 y N 13 HQ2.out _ hys hyl).mono ?_
       rintro e w2 ⟨rfl,hb2⟩
       have X2:=Hi ((he.alloc _).trans hb2)
       clear hb2
       go_wp2
       go_roundw
       case rel=>exact ⟨12+1,by omega,by go_num,HM,X2.out⟩
       case measure=>simp [intOf];omega
    · have d0:wr.cell? ⟨b,off+65,none⟩=some (.int .i64 y.tag):=c0
      have d1:wr.cell? ⟨b,off+66,none⟩=some (.int .i64 y.kind):=c1
      have d2:wr.cell? ⟨b,off+67,none⟩=some (.int .i64 y.n):=c2
      have d3:wr.cell? ⟨b,off+68,none⟩=some (.string y.s):=c3
      have d4:wr.cell? ⟨b,off+69,none⟩=some (.slice N.1 y.kids.length N.2):=c4
      clear c0 c1 c2 c3 c4
      have ki1:(13:Int)<(x.kids.length:Int):=by omega
      have HQ2:Hid (isNd y 14 1=q):=Hi HQ.out
      cases q with
      | false =>
       have HF:=Hi (HE.out rfl)
       go_wp2_with fail
       refine (isNode_v1 y N 14 HQ2.out _ hys hyl).mono ?_
       rintro e w2 ⟨rfl,hb2⟩
       have X2:Hid (Ext w w2):=Hi ((hew.out.alloc _).trans hb2)
       clear hb2
       go_wp2
       go_ret
       exact ⟨ret_bool HF.out.symm,X2.out⟩
      | true =>
       have HM:=Hi (HN.out rfl)
       go_wp2_with fail
       refine (isNode_v1 y N 14 HQ2.out _ hys hyl).mono ?_
       rintro e w2 ⟨rfl,hb2⟩
       have X2:=Hi ((he.alloc _).trans hb2)
       clear hb2
       go_wp2
       go_roundw
       case rel=>exact ⟨13+1,by omega,by go_num,HM,X2.out⟩
       case measure=>simp [intOf];omega
    · have d0:wr.cell? ⟨b,off+70,none⟩=some (.int .i64 y.tag):=c0
      have d1:wr.cell? ⟨b,off+71,none⟩=some (.int .i64 y.kind):=c1
      have d2:wr.cell? ⟨b,off+72,none⟩=some (.int .i64 y.n):=c2
      have d3:wr.cell? ⟨b,off+73,none⟩=some (.string y.s):=c3
      have d4:wr.cell? ⟨b,off+74,none⟩=some (.slice N.1 y.kids.length N.2):=c4
      clear c0 c1 c2 c3 c4
      have ki1:(14:Int)<(x.kids.length:Int):=by omega
      have HQ2:Hid (isNd y 15 1=q):=Hi HQ.out
      cases q with
      | false =>
       have HF:=Hi (HE.out rfl)
       go_wp2_with fail
       refine (isNode_v1 y N 15 HQ2.out _ hys hyl).mono ?_
       rintro e w2 ⟨rfl,hb2⟩
       have X2:Hid (Ext w w2):=Hi ((hew.out.alloc _).trans hb2)
       clear hb2
       go_wp2
       go_ret
       exact ⟨ret_bool HF.out.symm,X2.out⟩
      | true =>
       have HM:=Hi (HN.out rfl)
       go_wp2_with fail
       refine (isNode_v1 y N 15 HQ2.out _ hys hyl).mono ?_
       rintro e w2 ⟨rfl,hb2⟩
       have X2:=Hi ((he.alloc _).trans hb2)
       clear hb2
       go_wp2
       go_roundw
       case rel=>exact ⟨14+1,by omega,by go_num,HM,X2.out⟩
       case measure=>simp [intOf];omega
    · have d0:wr.cell? ⟨b,off+75,none⟩=some (.int .i64 y.tag):=c0
      have d1:wr.cell? ⟨b,off+76,none⟩=some (.int .i64 y.kind):=c1
      have d2:wr.cell? ⟨b,off+77,none⟩=some (.int .i64 y.n):=c2
      have d3:wr.cell? ⟨b,off+78,none⟩=some (.string y.s):=c3
      have d4:wr.cell? ⟨b,off+79,none⟩=some (.slice N.1 y.kids.length N.2):=c4
      clear c0 c1 c2 c3 c4
      have ki1:(15:Int)<(x.kids.length:Int):=by omega
      have HQ2:Hid (isLst y 16 1=q):=Hi HQ.out
      cases q with
      | false =>
       have HF:=Hi (HE.out rfl)
       go_wp2_with fail
       refine (isList_v1 B d y N 16 HQ2.out _ (HKN.out.ext ((Ext.refl _).alloc _)) HYZ.out).mono ?_
       rintro e w2 ⟨rfl,hb2⟩
       have X2:Hid (Ext w w2):=Hi ((hew.out.alloc _).trans hb2)
       clear hb2
       go_wp2
       go_ret
       exact ⟨ret_bool HF.out.symm,X2.out⟩
      | true =>
       have HM:=Hi (HN.out rfl)
       go_wp2_with fail
       refine (isList_v1 B d y N 16 HQ2.out _ (HKN.out.ext ((Ext.refl _).alloc _)) HYZ.out).mono ?_
       rintro e w2 ⟨rfl,hb2⟩
       have X2:=Hi ((he.alloc _).trans hb2)
       clear hb2
       go_wp2
       go_roundw
       case rel=>exact ⟨15+1,by omega,by go_num,HM,X2.out⟩
       case measure=>simp [intOf];omega
    · have d0:wr.cell? ⟨b,off+80,none⟩=some (.int .i64 y.tag):=c0
      have d1:wr.cell? ⟨b,off+81,none⟩=some (.int .i64 y.kind):=c1
      have d2:wr.cell? ⟨b,off+82,none⟩=some (.int .i64 y.n):=c2
      have d3:wr.cell? ⟨b,off+83,none⟩=some (.string y.s):=c3
      have d4:wr.cell? ⟨b,off+84,none⟩=some (.slice N.1 y.kids.length N.2):=c4
      clear c0 c1 c2 c3 c4
      have ki1:(16:Int)<(x.kids.length:Int):=by omega
      have HQ2:Hid (isNd y 17 1=q):=Hi HQ.out
      cases q with
      | false =>
       have HF:=Hi (HE.out rfl)
       go_wp2_with fail
       refine (isNode_v1 y N 17 HQ2.out _ hys hyl).mono ?_
       rintro e w2 ⟨rfl,hb2⟩
       have X2:Hid (Ext w w2):=Hi ((hew.out.alloc _).trans hb2)
       clear hb2
       go_wp2
       go_ret
       exact ⟨ret_bool HF.out.symm,X2.out⟩
      | true =>
       have HM:=Hi (HN.out rfl)
       go_wp2_with fail
       refine (isNode_v1 y N 17 HQ2.out _ hys hyl).mono ?_
       rintro e w2 ⟨rfl,hb2⟩
       have X2:=Hi ((he.alloc _).trans hb2)
       clear hb2
       go_wp2
       go_roundw
       case rel=>exact ⟨16+1,by omega,by go_num,HM,X2.out⟩
       case measure=>simp [intOf];omega
  · have hk17:k=17:=by omega
    subst hk17
    have HF:Hid (v=true):=Hi (by rw [← HV2.out];exact HA.out)
    go_wp2
    go_ret
    exact ⟨ret_bool HF.out.symm,hew.out⟩
end Go.Proofs.YtnlenappjjlbjaaGreatDoor
namespace Go.Proofs.YtnlenappjjlbjaaGreatDoor
namespace Rs

end Rs
end Go.Proofs.YtnlenappjjlbjaaGreatDoor
namespace Go.Proofs.YtnlenappjjlbjaaGreatDoor
open Go.RowKit
namespace Rs
end Rs
namespace Rs
end Rs
namespace Rs
end Rs
theorem rs_packed (it:It.Item) (L:It.Loc):∃ CS:Array Value,It.agg it L=.agg CS∧CS.size=17∧CS.all (·.oneCell')=true∧(It.cells it L).toArray=CS :=
 ⟨_,rfl,rfl,by simp [Value.oneCell'],rfl⟩
end Go.Proofs.YtnlenappjjlbjaaGreatDoor
namespace Go.Proofs.YtnlenappjjlbjaaGreatDoor
open Go.ChangeShapes Go.WideShapes Go.ChangeAt Go.RowKit
namespace Rs
end Rs
namespace Rs
end Rs
end Go.Proofs.YtnlenappjjlbjaaGreatDoor
