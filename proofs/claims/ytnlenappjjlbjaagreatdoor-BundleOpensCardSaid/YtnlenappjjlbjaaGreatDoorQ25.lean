/- The header of a bundle, in the package and in the reference: contracts. Conditions: those of each theorem. -/
import Derived.Test.YtnlenappjjlbjaaGreatDoorQ24
import Derived.Test.YtnlenappjjlbjaaGreatDoorQ19
import Derived.Laws.BytesArg
import Derived.Test.YtnlenappjjlbjaaGreatDoorQ26
namespace Go.Proofs.YtnlenappjjlbjaaGreatDoor
open Go.ChangeShapes Go.WideShapes Go.ChangeAt Go.RowKit Go.Shelf
theorem results_tmp4 {fn : Func} {t u v x : Tmp} (h : fn.results = #[.tmp t, .tmp u, .tmp v, .tmp x]) (tmps : Array Value) (P : Program) (w : World) :
    (results fn tmps).run P w=.ok (.tuple #[tmps.getD t undef,tmps.getD u undef,tmps.getD v undef,tmps.getD x undef]) w:=by
 simp [results,h]
theorem conv_u8 (w : World) (b off len cap : Nat) (xs : List Int) (hlen : xs.length = len) (h : SlU w (some ⟨b, off, none⟩) xs) :
    (convert 24 9 (.slice (some ⟨b,off,none⟩) len cap)).run Tryz.prog w=.ok (.string (Bu.toB xs)) w:=by
 refine run_convert_bytes_arg w 24 5 Tryz.underlying24 Tryz.underlying5 b off len cap xs hlen (fun i hi=>?_) 9 Tryz.underlying9
 obtain ⟨b',off',e,-,hc⟩:=h.at_ (i:=i) (by rw [hlen];exact hi)
 cases e
 rw [List.getD_eq_getElem?_getD,List.getElem?_eq_getElem (by rw [hlen];exact hi),Option.getD_some]
 exact hc
theorem SlU.sub {w:World} {A:Option Addr} {xs:List Int} (h:SlU w A xs) (i j:Nat):SlU w (Option.map (fun x=>x.add i) A) (Bu.sub xs i j):=SlU.drop1 (SlU.take1 h j) i
namespace Bu
def hdS (b:List Int):Int:=if headE b=0 then headS b else 0
def hdN (b:List Int):Int:=if headE b=0 then headN b else 0
def hdR (b:List Int):Int:=if headE b=0 then headR b else 0
theorem magic_eq {l:List Int} (h:Byt l):((toB l).toList == [69,88,66,49])=decide (l=magic):=by
 have e:(toB l).toList=l.map fun x=>UInt8.ofNat x.toNat:=by rw [ByteArray.toList_eq];unfold toB;simp
 rw [e]
 by_cases hl:l=magic
 · subst hl;rfl
 · rw [decide_eq_false hl,beq_eq_false_iff_ne]
   intro hm
   apply hl
   have h1:=congrArg (List.map fun u:UInt8=>(u.toNat:Int)) hm
   rw [List.map_map] at h1
   have h2:l.map ((fun u:UInt8=>(u.toNat:Int)) ∘ fun x=>UInt8.ofNat x.toNat)=l:=by
    conv=>rhs;rw [← List.map_id l]
    refine List.map_congr_left fun x hx=>?_
    obtain ⟨h0,h1⟩:=h x hx
    show (((UInt8.ofNat x.toNat).toNat:Nat):Int)=x
    rw [UInt8.toNat_ofNat']
    omega
   rw [h2] at h1
   exact h1
end Bu
set_option maxRecDepth 100000 in
set_option maxHeartbeats 6400000 in
theorem head_any (A : Option Addr) (c : Nat) (s : List Int) {n : Nat} (hn : s.length = n) (hc : n ≤ c) (hB : Bu.Byt s) (hl : n ≤ 9223372036854775807) (w : World) (h : SlU w A s) :
    Calls Tryz.prog 14 #[.slice A n c] w fun e w'=>e=.returned (.tuple #[.int .i64 (Bu.hdS s),.int .i64 (Bu.hdN s),.int .u64 (Bu.hdR s),.int .i64 (Bu.headE s)])∧Ext w w':=by
 have HE:Hid (Bu.headE s=if n<20 then 4 else if s.take 4≠Bu.magic then 2 else if Bu.rdB (Bu.sub s 4 8)<1∨9999999<Bu.rdB (Bu.sub s 4 8)∨60<Bu.rdB (Bu.sub s 8 12) then 3 else 0):=Hi (by rw [← hn];rfl)
 have BAD:∀ v:Int,Bu.headE s=v→v≠0→Hid (Bu.hdS s=0∧Bu.hdN s=0∧Bu.hdR s=0∧Bu.headE s=v):=fun v hv h0=>Hi (by
  unfold Bu.hdS Bu.hdN Bu.hdR
  rw [hv,if_neg h0,if_neg h0,if_neg h0]
  exact ⟨rfl,rfl,rfl,rfl⟩)
 rcases Nat.lt_or_ge n 20 with h20 | h20
 · have HV:=BAD 4 (by rw [HE.out,if_pos h20]) (by decide)
   clear HE BAD h hn hB hc
   have hi:(n:Int)<20:=by omega
   go_enter Tryz.func14,Tryz.ntmps14
   go_wp2
   refine bodyPost_ret (results_tmp4 rfl _ _ _) rfl ?_
   obtain ⟨e1,e2,e3,e4⟩:=HV.out
   exact ⟨by rw [e1,e2,e3,e4];rfl,Ext.refl _⟩
 rw [if_neg (by omega)] at HE
 have hi:¬ (n:Int)<20:=by omega
 obtain ⟨ab,ao,hA,-,-⟩:=h.at_ (i:=0) (by omega)
 subst hA
 have HBY:=Hi hB
 have hconv:=conv_u8 w ab ao 4 c (s.take 4) (by rw [List.length_take];omega) (SlU.take1 h 4)
 have hmg:((Bu.toB (s.take 4)).toList == [69,88,66,49])=decide (s.take 4=Bu.magic):=Bu.magic_eq (hB.take 4)
 have H4:Hid (SlU w (Option.map (fun x:Addr=>({ block:=x.block,off:=x.off+4 }:Addr)) (some ⟨ab,ao,none⟩)) (Bu.sub s 4 8)):=Hi (SlU.sub h 4 8)
 have H8:Hid (SlU w (Option.map (fun x:Addr=>({ block:=x.block,off:=x.off+8 }:Addr)) (some ⟨ab,ao,none⟩)) (Bu.sub s 8 12)):=Hi (SlU.sub h 8 12)
 have H12:Hid (SlU w (Option.map (fun x:Addr=>({ block:=x.block,off:=x.off+12 }:Addr)) (some ⟨ab,ao,none⟩)) (Bu.sub s 12 20)):=Hi (SlU.sub h 12 20)
 have K4:=Hi (fun W (hW:Ext w W)=>bget_any (Option.map (fun x:Addr=>({ block:=x.block,off:=x.off+4 }:Addr)) (some ⟨ab,ao,none⟩)) (c-4) (Bu.sub s 4 8) (n:=4) (Bu.sub_len (by omega)) (Bu.sub_byt HBY.out 4 8) rfl W (H4.out.ext hW) (by omega))
 have K8:=Hi (fun W (hW:Ext w W)=>bget_any (Option.map (fun x:Addr=>({ block:=x.block,off:=x.off+8 }:Addr)) (some ⟨ab,ao,none⟩)) (c-8) (Bu.sub s 8 12) (n:=4) (Bu.sub_len (by omega)) (Bu.sub_byt HBY.out 8 12) rfl W (H8.out.ext hW) (by omega))
 have K12:=Hi (fun W (hW:Ext w W)=>bget_any (Option.map (fun x:Addr=>({ block:=x.block,off:=x.off+12 }:Addr)) (some ⟨ab,ao,none⟩)) (c-12) (Bu.sub s 12 20) (n:=8) (Bu.sub_len (by omega)) (Bu.sub_byt HBY.out 12 20) rfl W (H12.out.ext hW) (by omega))
 simp only [Option.map_some] at K4 K8 K12
 have R4:=Bu.rdB_range (Bu.sub s 4 8)
 have R8:=Bu.rdB_range (Bu.sub s 8 12)
 have GOOD:Bu.headE s=0→Hid (Bu.hdS s=Bu.rdB (Bu.sub s 4 8)∧Bu.hdN s=Bu.rdB (Bu.sub s 8 12)∧Bu.hdR s=Bu.rdB (Bu.sub s 12 20)∧Bu.headE s=0):=fun hv=>Hi (by
  unfold Bu.hdS Bu.hdN Bu.hdR
  rw [hv,if_pos rfl,if_pos rfl,if_pos rfl]
  exact ⟨rfl,rfl,rfl,rfl⟩)
 generalize Bu.rdB (Bu.sub s 4 8)=v4 at *
 generalize Bu.rdB (Bu.sub s 8 12)=v8 at *
 generalize Bu.rdB (Bu.sub s 12 20)=v12 at *
 have hc4:¬ c=4:=by omega
 have hc8:¬ c=8:=by omega
 have hc12:¬ c=12:=by omega
 have hc20:(20:Int)≤(c:Int):=by omega
 have v40:=R4.1
 have v80:=R8.1
 rcases Classical.em (s.take 4=Bu.magic) with hm | hm
 · have t1:((Bu.toB (s.take 4)).toList == [69,88,66,49])=true:=by rw [hmg,decide_eq_true hm]
   rw [if_neg (by rw [hm];simp)] at HE
   clear hmg hm R4 R8 H4 H8 H12 HBY h hn hB
   generalize Bu.toB (s.take 4)=str at *
   rcases Classical.em (v4<1∨9999999<v4∨60<v8) with hb | hb
   · have HV:=BAD 3 (by rw [HE.out,if_pos hb]) (by decide)
     clear BAD GOOD HE
     rcases Classical.em (v4<1) with ha | ha
     · have t2:decide (v4<1)=true:=decide_eq_true ha
       clear hb
       go_enter Tryz.func14,Tryz.ntmps14
       go_wp2_with fail
       go_quiet ((first | (go_at_call 40;with_reducible exact quiet_eq (K4.out _ ((Ext.refl w).drewN _))) | (go_at_call 40;with_reducible exact quiet_eq (K8.out _ ((Ext.refl w).drewN _)))))
       go_wp2
       refine bodyPost_ret (results_tmp4 rfl _ _ _) rfl ?_
       obtain ⟨e1,e2,e3,e4⟩:=HV.out
       exact ⟨by rw [e1,e2,e3,e4];rfl,(Ext.refl _).drewN _⟩
     · have t2:decide (v4<1)=false:=decide_eq_false ha
       rcases Classical.em (9999999<v4) with ha2 | ha2
       · have t3:decide (9999999<v4)=true:=decide_eq_true ha2
         clear hb
         go_enter Tryz.func14,Tryz.ntmps14
         go_wp2_with fail
         go_quiet ((first | (go_at_call 40;with_reducible exact quiet_eq (K4.out _ ((Ext.refl w).drewN _))) | (go_at_call 40;with_reducible exact quiet_eq (K8.out _ ((Ext.refl w).drewN _)))))
         go_wp2
         refine bodyPost_ret (results_tmp4 rfl _ _ _) rfl ?_
         obtain ⟨e1,e2,e3,e4⟩:=HV.out
         exact ⟨by rw [e1,e2,e3,e4];rfl,(Ext.refl _).drewN _⟩
       · have t3:decide (9999999<v4)=false:=decide_eq_false ha2
         have ha3:60<v8:=by omega
         have t4:decide (60<v8)=true:=decide_eq_true ha3
         clear hb
         go_enter Tryz.func14,Tryz.ntmps14
         go_wp2_with fail
         go_quiet ((first | (go_at_call 40;with_reducible exact quiet_eq (K4.out _ ((Ext.refl w).drewN _))) | (go_at_call 40;with_reducible exact quiet_eq (K8.out _ ((Ext.refl w).drewN _)))))
         go_wp2
         refine bodyPost_ret (results_tmp4 rfl _ _ _) rfl ?_
         obtain ⟨e1,e2,e3,e4⟩:=HV.out
         exact ⟨by rw [e1,e2,e3,e4];rfl,(Ext.refl _).drewN _⟩
   · have HV:=GOOD (by rw [HE.out,if_neg hb])
     have b1:¬ v4<1:=by omega
     have b2:¬ 9999999<v4:=by omega
     have b3:¬ 60<v8:=by omega
     have t2:decide (v4<1)=false:=decide_eq_false b1
     have t3:decide (9999999<v4)=false:=decide_eq_false b2
     have t4:decide (60<v8)=false:=decide_eq_false b3
     clear BAD GOOD HE hb
     go_enter Tryz.func14,Tryz.ntmps14
     go_wp2_with fail
     go_quiet ((first | (go_at_call 40;with_reducible exact quiet_eq (K4.out _ ((Ext.refl w).drewN _))) | (go_at_call 40;with_reducible exact quiet_eq (K8.out _ ((Ext.refl w).drewN _)))))
     go_wp2_with fail
     with_reducible refine (K12.out _ ((Ext.refl w).drewN _)).mono ?_
     rintro e _ ⟨rfl,rfl⟩
     go_wp2
     refine bodyPost_ret (results_tmp4 rfl _ _ _) rfl ?_
     obtain ⟨e1,e2,e3,e4⟩:=HV.out
     exact ⟨by rw [e1,e2,e3,e4];rfl,(Ext.refl _).drewN _⟩
 · have t1:((Bu.toB (s.take 4)).toList == [69,88,66,49])=false:=by rw [hmg,decide_eq_false hm]
   have HV:=BAD 2 (by rw [HE.out,if_pos hm]) (by decide)
   clear hmg hm R4 R8 H4 H8 H12 HBY h hn hB K4 K8 K12 BAD GOOD HE
   generalize Bu.toB (s.take 4)=str at *
   go_enter Tryz.func14,Tryz.ntmps14
   go_wp2
   refine bodyPost_ret (results_tmp4 rfl _ _ _) rfl ?_
   obtain ⟨e1,e2,e3,e4⟩:=HV.out
   exact ⟨by rw [e1,e2,e3,e4];rfl,Ext.refl _⟩
set_option maxRecDepth 100000 in
set_option maxHeartbeats 6400000 in
theorem rhead_any (A : Option Addr) (c : Nat) (s : List Int) {n : Nat} (hn : s.length = n) (hc : n ≤ c) (hB : Bu.Byt s) (hl : n ≤ 9223372036854775807) (w : World) (h : SlU w A s) :
    Calls Tryz.prog 15 #[.slice A n c] w fun e w'=>e=.returned (.tuple #[.int .i64 (Bu.hdS s),.int .i64 (Bu.hdN s),.int .u64 (Bu.hdR s),.int .i64 (Bu.headE s)])∧Ext w w':=by
 have HE:Hid (Bu.headE s=if n<20 then 4 else if s.take 4≠Bu.magic then 2 else if Bu.rdB (Bu.sub s 4 8)<1∨9999999<Bu.rdB (Bu.sub s 4 8)∨60<Bu.rdB (Bu.sub s 8 12) then 3 else 0):=Hi (by rw [← hn];rfl)
 have BAD:∀ v:Int,Bu.headE s=v→v≠0→Hid (Bu.hdS s=0∧Bu.hdN s=0∧Bu.hdR s=0∧Bu.headE s=v):=fun v hv h0=>Hi (by
  unfold Bu.hdS Bu.hdN Bu.hdR
  rw [hv,if_neg h0,if_neg h0,if_neg h0]
  exact ⟨rfl,rfl,rfl,rfl⟩)
 rcases Nat.lt_or_ge n 20 with h20 | h20
 · have HV:=BAD 4 (by rw [HE.out,if_pos h20]) (by decide)
   clear HE BAD h hn hB hc
   have hi:(n:Int)<20:=by omega
   go_enter Tryz.func15,Tryz.ntmps15
   go_wp2
   refine bodyPost_ret (results_tmp4 rfl _ _ _) rfl ?_
   obtain ⟨e1,e2,e3,e4⟩:=HV.out
   exact ⟨by rw [e1,e2,e3,e4];rfl,Ext.refl _⟩
 rw [if_neg (by omega)] at HE
 have hi:¬ (n:Int)<20:=by omega
 obtain ⟨ab,ao,hA,-,-⟩:=h.at_ (i:=0) (by omega)
 subst hA
 have HBY:=Hi hB
 have hconv:=conv_u8 w ab ao 4 c (s.take 4) (by rw [List.length_take];omega) (SlU.take1 h 4)
 have hmg:((Bu.toB (s.take 4)).toList == [69,88,66,49])=decide (s.take 4=Bu.magic):=Bu.magic_eq (hB.take 4)
 have H4:Hid (SlU w (Option.map (fun x:Addr=>({ block:=x.block,off:=x.off+4 }:Addr)) (some ⟨ab,ao,none⟩)) (Bu.sub s 4 8)):=Hi (SlU.sub h 4 8)
 have H8:Hid (SlU w (Option.map (fun x:Addr=>({ block:=x.block,off:=x.off+8 }:Addr)) (some ⟨ab,ao,none⟩)) (Bu.sub s 8 12)):=Hi (SlU.sub h 8 12)
 have H12:Hid (SlU w (Option.map (fun x:Addr=>({ block:=x.block,off:=x.off+12 }:Addr)) (some ⟨ab,ao,none⟩)) (Bu.sub s 12 20)):=Hi (SlU.sub h 12 20)
 have K4:=Hi (fun W (hW:Ext w W)=>rbnum_any (Option.map (fun x:Addr=>({ block:=x.block,off:=x.off+4 }:Addr)) (some ⟨ab,ao,none⟩)) (c-4) (Bu.sub s 4 8) (n:=4) (Bu.sub_len (by omega))  rfl W (H4.out.ext hW) (by omega))
 have K8:=Hi (fun W (hW:Ext w W)=>rbnum_any (Option.map (fun x:Addr=>({ block:=x.block,off:=x.off+8 }:Addr)) (some ⟨ab,ao,none⟩)) (c-8) (Bu.sub s 8 12) (n:=4) (Bu.sub_len (by omega))  rfl W (H8.out.ext hW) (by omega))
 have K12:=Hi (fun W (hW:Ext w W)=>rbnum_any (Option.map (fun x:Addr=>({ block:=x.block,off:=x.off+12 }:Addr)) (some ⟨ab,ao,none⟩)) (c-12) (Bu.sub s 12 20) (n:=8) (Bu.sub_len (by omega))  rfl W (H12.out.ext hW) (by omega))
 simp only [Option.map_some] at K4 K8 K12
 have R4:=Bu.rdB_range (Bu.sub s 4 8)
 have R8:=Bu.rdB_range (Bu.sub s 8 12)
 have GOOD:Bu.headE s=0→Hid (Bu.hdS s=Bu.rdB (Bu.sub s 4 8)∧Bu.hdN s=Bu.rdB (Bu.sub s 8 12)∧Bu.hdR s=Bu.rdB (Bu.sub s 12 20)∧Bu.headE s=0):=fun hv=>Hi (by
  unfold Bu.hdS Bu.hdN Bu.hdR
  rw [hv,if_pos rfl,if_pos rfl,if_pos rfl]
  exact ⟨rfl,rfl,rfl,rfl⟩)
 generalize Bu.rdB (Bu.sub s 4 8)=v4 at *
 generalize Bu.rdB (Bu.sub s 8 12)=v8 at *
 generalize Bu.rdB (Bu.sub s 12 20)=v12 at *
 have hc4:¬ c=4:=by omega
 have hc8:¬ c=8:=by omega
 have hc12:¬ c=12:=by omega
 have hc20:(20:Int)≤(c:Int):=by omega
 have v40:=R4.1
 have v80:=R8.1
 rcases Classical.em (s.take 4=Bu.magic) with hm | hm
 · have t1:((Bu.toB (s.take 4)).toList == [69,88,66,49])=true:=by rw [hmg,decide_eq_true hm]
   rw [if_neg (by rw [hm];simp)] at HE
   clear hmg hm R4 R8 H4 H8 H12 HBY h hn hB
   generalize Bu.toB (s.take 4)=str at *
   rcases Classical.em (v4<1∨9999999<v4∨60<v8) with hb | hb
   · have HV:=BAD 3 (by rw [HE.out,if_pos hb]) (by decide)
     clear BAD GOOD HE
     rcases Classical.em (v4<1) with ha | ha
     · have t2:decide (v4<1)=true:=decide_eq_true ha
       clear hb
       go_enter Tryz.func15,Tryz.ntmps15
       go_wp2_with fail
       go_quiet ((first | (go_at_call 41;with_reducible exact quiet_eq (K4.out _ ((Ext.refl w).drewN _))) | (go_at_call 41;with_reducible exact quiet_eq (K8.out _ ((Ext.refl w).drewN _)))))
       go_wp2
       refine bodyPost_ret (results_tmp4 rfl _ _ _) rfl ?_
       obtain ⟨e1,e2,e3,e4⟩:=HV.out
       exact ⟨by rw [e1,e2,e3,e4];rfl,(Ext.refl _).drewN _⟩
     · have t2:decide (v4<1)=false:=decide_eq_false ha
       rcases Classical.em (9999999<v4) with ha2 | ha2
       · have t3:decide (9999999<v4)=true:=decide_eq_true ha2
         clear hb
         go_enter Tryz.func15,Tryz.ntmps15
         go_wp2_with fail
         go_quiet ((first | (go_at_call 41;with_reducible exact quiet_eq (K4.out _ ((Ext.refl w).drewN _))) | (go_at_call 41;with_reducible exact quiet_eq (K8.out _ ((Ext.refl w).drewN _)))))
         go_wp2
         refine bodyPost_ret (results_tmp4 rfl _ _ _) rfl ?_
         obtain ⟨e1,e2,e3,e4⟩:=HV.out
         exact ⟨by rw [e1,e2,e3,e4];rfl,(Ext.refl _).drewN _⟩
       · have t3:decide (9999999<v4)=false:=decide_eq_false ha2
         have ha3:60<v8:=by omega
         have t4:decide (60<v8)=true:=decide_eq_true ha3
         clear hb
         go_enter Tryz.func15,Tryz.ntmps15
         go_wp2_with fail
         go_quiet ((first | (go_at_call 41;with_reducible exact quiet_eq (K4.out _ ((Ext.refl w).drewN _))) | (go_at_call 41;with_reducible exact quiet_eq (K8.out _ ((Ext.refl w).drewN _)))))
         go_wp2
         refine bodyPost_ret (results_tmp4 rfl _ _ _) rfl ?_
         obtain ⟨e1,e2,e3,e4⟩:=HV.out
         exact ⟨by rw [e1,e2,e3,e4];rfl,(Ext.refl _).drewN _⟩
   · have HV:=GOOD (by rw [HE.out,if_neg hb])
     have b1:¬ v4<1:=by omega
     have b2:¬ 9999999<v4:=by omega
     have b3:¬ 60<v8:=by omega
     have t2:decide (v4<1)=false:=decide_eq_false b1
     have t3:decide (9999999<v4)=false:=decide_eq_false b2
     have t4:decide (60<v8)=false:=decide_eq_false b3
     clear BAD GOOD HE hb
     go_enter Tryz.func15,Tryz.ntmps15
     go_wp2_with fail
     go_quiet ((first | (go_at_call 41;with_reducible exact quiet_eq (K4.out _ ((Ext.refl w).drewN _))) | (go_at_call 41;with_reducible exact quiet_eq (K8.out _ ((Ext.refl w).drewN _)))))
     go_wp2_with fail
     with_reducible refine (K12.out _ ((Ext.refl w).drewN _)).mono ?_
     rintro e _ ⟨rfl,rfl⟩
     go_wp2
     refine bodyPost_ret (results_tmp4 rfl _ _ _) rfl ?_
     obtain ⟨e1,e2,e3,e4⟩:=HV.out
     exact ⟨by rw [e1,e2,e3,e4];rfl,(Ext.refl _).drewN _⟩
 · have t1:((Bu.toB (s.take 4)).toList == [69,88,66,49])=false:=by rw [hmg,decide_eq_false hm]
   have HV:=BAD 2 (by rw [HE.out,if_pos hm]) (by decide)
   clear hmg hm R4 R8 H4 H8 H12 HBY h hn hB K4 K8 K12 BAD GOOD HE
   generalize Bu.toB (s.take 4)=str at *
   go_enter Tryz.func15,Tryz.ntmps15
   go_wp2
   refine bodyPost_ret (results_tmp4 rfl _ _ _) rfl ?_
   obtain ⟨e1,e2,e3,e4⟩:=HV.out
   exact ⟨by rw [e1,e2,e3,e4];rfl,Ext.refl _⟩
def failed (er:Int):List PanicEntry:=[{ v:=.iface 110 (.int .i64 er),recovered:=false }]
def FrG (g:Nat) (w w':World):Prop:=w.heap.size≤w'.heap.size∧∀ q,q<w.heap.size→q≠g→w'.heap[q]?=w.heap[q]?
theorem FrG.refl (g:Nat) (w:World):FrG g w w:=⟨Nat.le_refl _,fun _ _ _=>rfl⟩
theorem FrG.trans {g:Nat} {a b c:World} (h:FrG g a b) (k:FrG g b c):FrG g a c:=⟨Nat.le_trans h.1 k.1,fun q hq hn=>(k.2 q (Nat.lt_of_lt_of_le hq h.1) hn).trans (h.2 q hq hn)⟩
theorem FrG.ext {g:Nat} {a b:World} (h:Ext a b):FrG g a b:=⟨h.size,fun q hq _=>h.block q hq⟩
theorem FrG.set {g:Nat} (w:World) (i:Nat) (v:Value):FrG g w (w.setCell ⟨g,i,none⟩ v):=⟨by simp [World.setCell],fun q _ hn=>Below.heap_setCell _ _ _ _ hn⟩
def RdC (A:Option Addr) (n c i:Nat) (en:Int):Array Value:=#[.slice A n c,.int .i64 (i:Int),.int .i64 en]
structure RdAt (W0 w:World) (g:Nat) (A:Option Addr) (n c i:Nat) (en:Int):Prop where
 blk:w.heap[g]?=some (.cells (RdC A n c i en) 113 (0,0))
 ext:Ext W0 w
 new:W0.heap.size≤g
theorem RdAt.cells {W0 w : World} {g : Nat} {A : Option Addr} {n c i : Nat} {en : Int} (h : RdAt W0 w g A n c i en) :
    w.cell? ⟨g,0,none⟩=some (.slice A n c)∧w.cell? ⟨g,1,none⟩=some (.int .i64 (i:Int))∧w.cell? ⟨g,2,none⟩=some (.int .i64 en)∧w.frozen? ⟨g,1,none⟩=false:=by
 have hb:=h.blk
 refine ⟨?_,?_,?_,?_⟩
 · simp [World.cell?,hb,RdC]
 · simp [World.cell?,hb,RdC]
 · simp [World.cell?,hb,RdC]
 · simp [World.frozen?,hb]
theorem RdAt.lt {W0 w:World} {g:Nat} {A:Option Addr} {n c i:Nat} {en:Int} (h:RdAt W0 w g A n c i en):g<w.heap.size:=by
 rcases Nat.lt_or_ge g w.heap.size with h1 | h1
 · exact h1
 · have:=h.blk
   rw [Array.getElem?_eq_none h1] at this
   cases this
theorem RdAt.later {W0 w w':World} {g:Nat} {A:Option Addr} {n c i:Nat} {en:Int} (h:RdAt W0 w g A n c i en) (he:Ext w w'):RdAt W0 w' g A n c i en:=⟨he.blockAt h.blk,h.ext.trans he,h.new⟩
theorem RdAt.move {W0 w:World} {g:Nat} {A:Option Addr} {n c i:Nat} {en:Int} (h:RdAt W0 w g A n c i en) (j:Nat):RdAt W0 (w.setCell ⟨g,1,none⟩ (.int .i64 (j:Int))) g A n c j en:=by
 refine ⟨?_,h.ext.setCell h.new _,h.new⟩
 rw [heap_setCell_same w g 1 _ _ _ h.blk]
 rfl
theorem RdAt.took {W0 w : World} {g : Nat} {A : Option Addr} {n c i : Nat} {en : Int} (h : RdAt W0 w g A n c i en) (k n1 n2 : Nat) {v : Int} (hv : v = (i : Int) + (k : Int)) :
    Ext W0 (((w.drewN n1).setCell ⟨g,1,none⟩ (.int .i64 v)).drewN n2)∧FrG g w (((w.drewN n1).setCell ⟨g,1,none⟩ (.int .i64 v)).drewN n2)∧RdAt W0 (((w.drewN n1).setCell ⟨g,1,none⟩ (.int .i64 v)).drewN n2) g A n c (i+k) en:=by
 have h1:=(h.later ((Ext.refl w).drewN n1)).move (i+k)
 rw [Int.natCast_add,← hv] at h1
 exact ⟨h1.ext.drewN n2,((FrG.ext ((Ext.refl w).drewN n1)).trans (FrG.set _ 1 _)).trans (FrG.ext ((Ext.refl _).drewN n2)),h1.later ((Ext.refl _).drewN n2)⟩
def RdPost {α:Type} (W0:World) (g:Nat) (A:Option Addr) (n c:Nat) (en:Int) (R:Except Int (α×List Int)) (val:α→Value→World→Prop) (w:World) (e:Ending) (w':World):Prop :=
 Ext W0 w'∧FrG g w w'∧match R with
  | .error er=>e=.panicked (failed er)
  | .ok (x,l)=>∃ v,e=.returned v∧val x v w'∧l.length≤n∧RdAt W0 w' g A n c (n-l.length) en
structure Rst (W0:World) (A:Option Addr) (bs:List Int) (n i:Nat) (r:List Int):Prop where
 sl:SlU W0 A bs
 len:bs.length=n
 drop:bs.drop i=r
 le:i≤n
theorem Rst.rlen {W0:World} {A:Option Addr} {bs:List Int} {n i:Nat} {r:List Int} (h:Rst W0 A bs n i r):r.length=n-i:=by rw [← h.drop,List.length_drop,h.len]
theorem Rst.step {W0:World} {A:Option Addr} {bs:List Int} {n i:Nat} {r:List Int} (h:Rst W0 A bs n i r) {k:Nat} (hk:k≤r.length):Rst W0 A bs n (i+k) (r.drop k):=by
 have:=h.rlen
 have:=h.le
 exact ⟨h.sl,h.len,by rw [← h.drop,List.drop_drop],by omega⟩
set_option maxRecDepth 100000 in
set_option maxHeartbeats 6400000 in
theorem fail_any (er:Int) (w:World):Calls Tryz.prog 131 #[.int .i64 er] w fun e w'=>e=.panicked (failed er)∧w=w':=by
 go_enter Tryz.func131,Tryz.ntmps131
 go_wp2
 exact ⟨rfl,rfl,rfl⟩
set_option maxRecDepth 100000 in
set_option maxHeartbeats 6400000 in
theorem take_any (W0 : World) (g : Nat) (A : Option Addr) (bs : List Int) (n c i : Nat) (en : Int) (r : List Int) (hr : Rst W0 A bs n i r) (hc : n ≤ c) (hn : n ≤ 1048576) (k : Nat) (hk : k ≤ 2000) (w : World) (h : RdAt W0 w g A n c i en) :
    Calls Tryz.prog 133 #[.pointer (some ⟨g,0,none⟩),.int .i64 (k:Int)] w fun e w'=>RdPost W0 g A n c en (if r.length<k then .error en else .ok (r.take k,r.drop k)) (fun x v w'=>∃ A' c',v=.slice A' k c'∧SlU w' A' x) w e w':=by
 have hlen:=hr.rlen
 have hle:=hr.le
 obtain ⟨c0,c1,c2,f1⟩:=h.cells
 have HR:=Hi hr
 have HA:=Hi h
 have ki0:(0:Int)≤(k:Int):=by omega
 by_cases hlt:r.length<k
 · rw [if_pos hlt]
   have t1:decide ((n:Int)-(i:Int)<(k:Int))=true:=decide_eq_true (by omega)
   clear hr h
   go_enter Tryz.func133,Tryz.ntmps133
   go_wp2_with fail
   go_quiet (fail)
   go_wp2_with fail
   with_reducible refine (fail_any en _).mono ?_
   rintro e _ ⟨rfl,rfl⟩
   exact ⟨rfl,HA.out.ext.drewN _,FrG.ext ((Ext.refl _).drewN _),rfl⟩
 · rw [if_neg hlt]
   have t1:decide ((n:Int)-(i:Int)<(k:Int))=false:=decide_eq_false (by omega)
   have HR2:=Hi (hr.step (k:=k) (by omega))
   have HDL:Hid (n-(r.drop k).length=i+k∧(r.drop k).length≤n):=Hi ⟨by rw [List.length_drop];omega,by rw [List.length_drop];omega⟩
   have hik:i+k≤n:=by omega
   clear hr h
   have HSL:Hid (SlU W0 (Option.map (fun x=>x.add i) A) (r.take k)):=Hi (by
    have:=SlU.sub HR.out.sl i (i+k)
    unfold Bu.sub at this
    rw [List.drop_take,HR.out.drop,Nat.add_sub_cancel_left] at this
    exact this)
   have hik2:(i:Int)+(k:Int)≤(c:Int):=by omega
   have hik3:(i:Int)+(k:Int)≤(n:Int):=by omega
   have hi0:(0:Int)≤(i:Int):=by omega
   rcases Classical.em (c=i) with hci | hci
   · obtain rfl:k=0:=by omega
     have hin:i=n:=by omega
     subst hci hin
     have hz0:c+0-c=0:=by omega
     go_enter Tryz.func133,Tryz.ntmps133
     go_wp2_with fail
     go_quiet (fail)
     go_wp2
     go_quiet (fail)
     go_wp2
     go_ret
     obtain ⟨X1,X2,X3⟩:=HA.out.took 0 _ _ rfl
     refine ⟨X1,X2,_,rfl,⟨_,_,by first | rfl | simp,by rw [List.take_zero];exact SlU.nil _ _⟩,HDL.out.2,?_⟩
     rw [HDL.out.1]
     exact X3
   · have hikk:i+k-i=k:=by omega
     go_enter Tryz.func133,Tryz.ntmps133
     go_wp2_with fail
     go_quiet (fail)
     go_wp2
     go_quiet (fail)
     go_wp2
     go_ret
     obtain ⟨X1,X2,X3⟩:=HA.out.took k _ _ rfl
     refine ⟨X1,X2,_,rfl,⟨Option.map (fun x=>x.add i) A,c-i,by show Value.slice (Option.map (fun x=>x.add i) A) (i+k-i) (c-i)=_;rw [hikk],HSL.out.ext X1⟩,HDL.out.2,?_⟩
     rw [HDL.out.1]
     exact X3
namespace Bu
theorem and127 {y:Int} (h0:0≤y) (h1:y<256):bits BinOp.and IntKind.u8 y 127=y % 128:=by
 have h:∀ y:Fin 256,bits BinOp.and IntKind.u8 (y.val:Int) 127=(y.val:Int) % 128:=by decide +kernel
 have:=h ⟨y.toNat,by omega⟩
 simpa [Int.toNat_of_nonneg h0] using this
theorem vr_bits {acc j : Nat} {y : Int} (ha : acc < 128 ^ j) (hj : j ≤ 9) (h0 : 0 ≤ y) (h1 : y < 256) (h9 : j = 9 → y ≤ 1) :
    bits BinOp.or IntKind.u64 (acc:Int) (IntKind.u64.wrap (IntKind.u64.wrap (bits BinOp.and IntKind.u8 y 127)*2 ^ (7*j)))=((acc+y.toNat % 128*128 ^ j:Nat):Int):=by
 rw [and127 h0 h1,IntKind.wrap_u64,IntKind.wrap_u64]
 obtain ⟨y,rfl⟩:=Int.eq_ofNat_of_zero_le h0
 rw [Int.toNat_natCast]
 obtain ⟨m,hm⟩:∃ m,y % 128=m:=⟨_,rfl⟩
 have hm1:((y:Int) % 128)=(m:Int):=by omega
 have hp:(2:Int) ^ (7*j)=((128 ^ j:Nat):Int):=by
  rw [Int.natCast_pow,Int.pow_mul]
  rfl
 have hq:128 ^ j=2 ^ (7*j):=by rw [Nat.pow_mul]
 have hlt:m*128 ^ j<18446744073709551616:=by
  rcases Nat.lt_or_ge j 9 with h | h
  · have h2:128 ^ j≤128 ^ 8:=Nat.pow_le_pow_right (by decide) (by omega)
    have h3:m*128 ^ j≤127*128 ^ 8:=Nat.mul_le_mul (by omega) h2
    have:(128:Nat) ^ 8=72057594037927936:=by decide
    omega
  · obtain rfl:j=9:=by omega
    have:=h9 rfl
    have h3:m*128 ^ 9≤1*128 ^ 9:=Nat.mul_le_mul_right _ (by omega)
    have:(128:Nat) ^ 9=9223372036854775808:=by decide
    omega
 have hal:acc<18446744073709551616:=by
  have h2:128 ^ j≤128 ^ 9:=Nat.pow_le_pow_right (by decide) hj
  have:(128:Nat) ^ 9=9223372036854775808:=by decide
  omega
 rw [hm1,hp,show (m:Int) % 18446744073709551616=(m:Int) by omega,← Int.natCast_mul,show ((m*128 ^ j:Nat):Int) % 18446744073709551616=((m*128 ^ j:Nat):Int) by omega,bits_or_u64_nat _ _ hal hlt,hm]
 congr 1
 rw [Nat.or_comm,hq,Nat.mul_comm m]
 rw [hq] at ha
 rw [← Nat.two_pow_add_eq_or_of_lt ha,Nat.add_comm]
theorem vr_acc {acc j:Nat} {y:Int} (ha:acc<128 ^ j):acc+y.toNat % 128*128 ^ j<128 ^ (j+1):=by
 have h1:y.toNat % 128*128 ^ j≤127*128 ^ j:=Nat.mul_le_mul_right _ (by omega)
 rw [Nat.pow_succ]
 omega
end Bu
theorem take1_any (W0 : World) (g : Nat) (A : Option Addr) (bs : List Int) (n c i : Nat) (en : Int) (r : List Int) (hr : Rst W0 A bs n i r) (hc : n ≤ c) (hn : n ≤ 1048576) (w : World) (h : RdAt W0 w g A n c i en) :
    Calls Tryz.prog 133 #[.pointer (some ⟨g,0,none⟩),.int .i64 1] w fun e w'=>RdPost W0 g A n c en (if r.length<1 then .error en else .ok (r.take 1,r.drop 1)) (fun x v w'=>∃ A' c',v=.slice A' 1 c'∧SlU w' A' x) w e w':=take_any W0 g A bs n c i en r hr hc hn 1 (by omega) w h
set_option maxRecDepth 100000 in
set_option maxHeartbeats 6400000 in
theorem varint_any (W0 : World) (g : Nat) (A : Option Addr) (bs : List Int) (n c i : Nat) (en : Int) (r : List Int) (hB : Bu.Byt bs) (hr : Rst W0 A bs n i r) (hc : n ≤ c) (hn : n ≤ 1048576) (w : World) (h : RdAt W0 w g A n c i en) :
    Calls Tryz.prog 132 #[.pointer (some ⟨g,0,none⟩)] w fun e w'=>RdPost W0 g A n c en (Bu.vr en r) (fun x v _=>v=.int .u64 (x:Nat)) w e w':=by
 have HT:=Hi (fun wr at_ l (h1:Rst W0 A bs n at_ l) (h2:RdAt W0 wr g A n c at_ en)=>take1_any W0 g A bs n c at_ en l h1 hc hn wr h2)
 have HR:=Hi hr
 have HA:=Hi h
 have HBY:=Hi hB
 clear hr h hB
 go_enter Tryz.func132,Tryz.ntmps132
 go_wp2
 go_loopw [3,4] (fun x q wr=>∃ (j acc at_:Nat) (l:List Int),j≤9∧q=.int .i64 (j:Int)∧x=.int .u64 (acc:Int)∧acc<128 ^ j∧Hid (Bu.vrA en (10-j) j acc l=Bu.vr en r)∧Hid (Rst W0 A bs n at_ l)∧Hid (RdAt W0 wr g A n c at_ en)∧Hid (FrG g w wr)) (fun _ q _=>10-(intOf q).toNat)
 case atStart=>exact ⟨0,0,i,r,by omega,rfl,rfl,by decide,Hi rfl,HR,HA,Hi (FrG.refl g w)⟩
 case round =>
  obtain ⟨j,acc,at_,l,hj,rfl,rfl,hacc,HV,HRS,HRD,HFR⟩:=hrel
  have hf:10-j=(9-j)+1:=by omega
  cases l with
  | nil =>
   have HRE:Hid (Bu.vr en r=.error en):=Hi (by rw [← HV.out,hf,Bu.vrA])
   have HK:=HT.out wr at_ [] HRS.out HRD.out
   rw [if_pos (show ([]:List Int).length<1 by decide)] at HK
   have HK2:=Hi HK
   clear HK hf
   go_wp2_with fail
   with_reducible refine HK2.out.mono ?_
   rintro e w2 ⟨hx2,hfr2,rfl⟩
   exact ⟨rfl,hx2,HFR.out.trans hfr2,by rw [HRE.out]⟩
  | cons y l' =>
   have HK:=HT.out wr at_ (y :: l') HRS.out HRD.out
   rw [if_neg (show ¬ (y :: l').length<1 by simp)] at HK
   have HK2:=Hi HK
   have HRS2:=Hi (HRS.out.step (k:=1) (by simp))
   have hy:0≤y∧y<256:=HBY.out y (by
    have:=HRS.out.drop
    exact List.mem_of_mem_drop (by rw [this];exact List.mem_cons_self ..))
   obtain ⟨hy0,hy1⟩:=hy
   clear HK
   go_wp2_with fail
   with_reducible refine HK2.out.mono ?_
   rintro e w2 ⟨hx2,hfr2,v2,rfl,⟨A2,c2,rfl,hs2⟩,hle2,hrd2⟩
   obtain ⟨b2,o2,rfl,hb2,hcell⟩:=hs2.at_ (i:=0) (by simp)
   simp only [List.take_succ_cons,List.take_zero,List.getElem_cons_zero,Nat.add_zero] at hcell
   have HL:Hid (n-(List.drop 1 (y :: l')).length=at_+1):=Hi (by
    have:=HRS.out.rlen
    have:=HRS.out.le
    simp only [List.drop_succ_cons,List.drop_zero,List.length_cons] at *
    omega)
   rw [HL.out] at hrd2
   have HRD2:=Hi hrd2
   have HE2:=Hi hx2
   have HF2:=Hi (HFR.out.trans hfr2)
   have HL2:Hid (n-l'.length=at_+1∧l'.length≤n):=Hi ⟨HL.out,by have:=HRS.out.rlen;simp only [List.length_cons] at this;omega⟩
   clear hrd2 hx2 hfr2 hle2 hs2 HK2 HL HRD HFR
   have jj0:(0:Int)≤(j:Int):=by omega
   by_cases h9:j=9
   · have t1:((j:Int) == 9)=true:=by rw [h9];rfl
     by_cases h1:1<y
     · have t2:decide (1<y)=true:=decide_eq_true h1
       have hbad:(j=9∧1<y)∨(0<j∧y=0):=Or.inl ⟨h9,h1⟩
       have HRE:Hid (Bu.vr en r=.error 2):=Hi (by rw [← HV.out,hf,Bu.vrA,if_pos hbad])
       clear hf hbad
       go_wp2_with fail
       with_reducible refine (fail_any 2 _).mono ?_
       rintro e _ ⟨rfl,rfl⟩
       exact ⟨rfl,HE2.out,HF2.out,by rw [HRE.out]⟩
     · have t2:decide (1<y)=false:=decide_eq_false h1
       have t3:decide (0<(j:Int))=true:=decide_eq_true (by omega)
       by_cases h0:y=0
       · have t4:(y == 0)=true:=by rw [h0];rfl
         have hbad:(j=9∧1<y)∨(0<j∧y=0):=Or.inr ⟨by omega,h0⟩
         have HRE:Hid (Bu.vr en r=.error 2):=Hi (by rw [← HV.out,hf,Bu.vrA,if_pos hbad])
         clear hf hbad
         go_wp2_with fail
         with_reducible refine (fail_any 2 _).mono ?_
         rintro e _ ⟨rfl,rfl⟩
         exact ⟨rfl,HE2.out,HF2.out,by rw [HRE.out]⟩
       · have t4:(y == 0)=false:=by rw [beq_eq_false_iff_ne];exact h0
         have hok:¬ ((j=9∧1<y)∨(0<j∧y=0)):=by omega
         have HBI:=Hi (Bu.vr_bits hacc hj hy0 hy1 (fun _=>by omega))
         have e9:(2:Int) ^ (7*j)=9223372036854775808:=by rw [h9];decide
         rw [e9] at HBI
         clear e9
         by_cases hlast:y<128
         · have t9:decide (y<128)=true:=decide_eq_true hlast
           have HRE:Hid (Bu.vr en r=.ok (acc+y.toNat % 128*128 ^ j,l')):=Hi (by rw [← HV.out,hf,Bu.vrA,if_neg hok,if_pos hlast])
           clear hf hok
           go_wp2
           go_ret
           refine ⟨HE2.out,HF2.out,?_⟩
           rw [HRE.out]
           exact ⟨_,rfl,congrArg (Value.int IntKind.u64) HBI.out,HL2.out.2,by rw [HL2.out.1];exact HRD2.out⟩
         · exact absurd hlast (by omega)
   · have t1:((j:Int) == 9)=false:=by rw [beq_eq_false_iff_ne];omega
     by_cases hj0:0<j
     · have t3:decide (0<(j:Int))=true:=decide_eq_true (by omega)
       by_cases h0:y=0
       · have t4:(y == 0)=true:=by rw [h0];rfl
         have hbad:(j=9∧1<y)∨(0<j∧y=0):=Or.inr ⟨hj0,h0⟩
         have HRE:Hid (Bu.vr en r=.error 2):=Hi (by rw [← HV.out,hf,Bu.vrA,if_pos hbad])
         clear hf hbad
         go_wp2_with fail
         with_reducible refine (fail_any 2 _).mono ?_
         rintro e _ ⟨rfl,rfl⟩
         exact ⟨rfl,HE2.out,HF2.out,by rw [HRE.out]⟩
       · have t4:(y == 0)=false:=by rw [beq_eq_false_iff_ne];exact h0
         have hok:¬ ((j=9∧1<y)∨(0<j∧y=0)):=by omega
         have HBI:=Hi (Bu.vr_bits hacc hj hy0 hy1 (fun hh=>absurd hh h9))
         have hj8:j≤8:=by omega
         by_cases hlast:y<128
         · have t9:decide (y<128)=true:=decide_eq_true hlast
           have HRE:Hid (Bu.vr en r=.ok (acc+y.toNat % 128*128 ^ j,l')):=Hi (by rw [← HV.out,hf,Bu.vrA,if_neg hok,if_pos hlast])
           clear hf hok
           go_wp2
           go_ret
           refine ⟨HE2.out,HF2.out,?_⟩
           rw [HRE.out]
           exact ⟨_,rfl,congrArg (Value.int IntKind.u64) HBI.out,HL2.out.2,by rw [HL2.out.1];exact HRD2.out⟩
         · have t9:decide (y<128)=false:=decide_eq_false hlast
           have HRE:Hid (Bu.vrA en (10-(j+1)) (j+1) (acc+y.toNat % 128*128 ^ j) l'=Bu.vr en r):=Hi (by rw [← HV.out,hf,Bu.vrA,if_neg hok,if_neg hlast,show 10-(j+1)=9-j by omega])
           clear hf hok
           go_wp2
           go_roundw
           case rel=>exact ⟨j+1,acc+y.toNat % 128*128 ^ j,at_+1,l',by omega,by go_num,by rw [← HBI.out],Bu.vr_acc hacc,HRE,HRS2,HRD2,HF2⟩
           case measure=>simp [intOf] <;> omega
     · have t3:decide (0<(j:Int))=false:=decide_eq_false (by omega)
       have hok:¬ ((j=9∧1<y)∨(0<j∧y=0)):=by omega
       have HBI:=Hi (Bu.vr_bits hacc hj hy0 hy1 (fun hh=>absurd hh h9))
       by_cases hlast:y<128
       · have t9:decide (y<128)=true:=decide_eq_true hlast
         have HRE:Hid (Bu.vr en r=.ok (acc+y.toNat % 128*128 ^ j,l')):=Hi (by rw [← HV.out,hf,Bu.vrA,if_neg hok,if_pos hlast])
         clear hf hok
         go_wp2
         go_ret
         refine ⟨HE2.out,HF2.out,?_⟩
         rw [HRE.out]
         exact ⟨_,rfl,congrArg (Value.int IntKind.u64) HBI.out,HL2.out.2,by rw [HL2.out.1];exact HRD2.out⟩
       · have t9:decide (y<128)=false:=decide_eq_false hlast
         have HRE:Hid (Bu.vrA en (10-(j+1)) (j+1) (acc+y.toNat % 128*128 ^ j) l'=Bu.vr en r):=Hi (by rw [← HV.out,hf,Bu.vrA,if_neg hok,if_neg hlast,show 10-(j+1)=9-j by omega])
         clear hf hok
         go_wp2
         go_roundw
         case rel=>exact ⟨j+1,acc+y.toNat % 128*128 ^ j,at_+1,l',by omega,by go_num,by rw [← HBI.out],Bu.vr_acc hacc,HRE,HRS2,HRD2,HF2⟩
         case measure=>simp [intOf] <;> omega
def KidsP (B:Nat) (ok:Nat→Prop):Nat→World→Option Addr×Nat→List Nd→Prop
 | 0,_,L,ks=>ks=[]∧L.2≤maxLen
 | d + 1, w, L, ks => ks.length ≤ B ∧ ks.length ≤ L.2 ∧ L.2 ≤ maxLen ∧ (ks = [] ∨ ∃ (b off : Nat) (Ls : List (Option Addr × Nat)), L.1 = some ⟨b, off, none⟩ ∧ ok b ∧ b < w.heap.size ∧ Ls.length = ks.length ∧
     ∀ i x M,ks[i]?=some x→Ls[i]?=some M→(∀ j v,(ndc x M)[j]?=some v→w.cell? ⟨b,off+(i*5+j),none⟩=some v)∧KidsP B ok d w M x.kids)
theorem KidsP.to {B lo:Nat} {ok:Nat→Prop} (hlo:∀ b,ok b→lo≤b):∀ {d:Nat} {w:World} {L:Option Addr×Nat} {ks:List Nd},KidsP B ok d w L ks→KidsAt B lo d w L ks
 | 0,_,_,_,h=>h
 | d+1,w,L,ks,⟨h1,h2,h3,h⟩=>by
  refine ⟨h1,h2,h3,?_⟩
  rcases h with h | ⟨b,off,Ls,e,hl,hb,hL,hc⟩
  · exact Or.inl h
  · exact Or.inr ⟨b,off,Ls,e,hlo b hl,hb,hL,fun i x M hx hM=>⟨(hc i x M hx hM).1,(hc i x M hx hM).2.to hlo⟩⟩
theorem KidsP.mono {B:Nat} {ok ok':Nat→Prop} (hlo:∀ b,ok b→ok' b):∀ {d:Nat} {w:World} {L:Option Addr×Nat} {ks:List Nd},KidsP B ok d w L ks→KidsP B ok' d w L ks
 | 0,_,_,_,h=>h
 | d+1,w,L,ks,⟨h1,h2,h3,h⟩=>by
  refine ⟨h1,h2,h3,?_⟩
  rcases h with h | ⟨b,off,Ls,e,hl,hb,hL,hc⟩
  · exact Or.inl h
  · exact Or.inr ⟨b,off,Ls,e,hlo b hl,hb,hL,fun i x M hx hM=>⟨(hc i x M hx hM).1,(hc i x M hx hM).2.mono hlo⟩⟩
theorem KidsP.bound {B:Nat} {ok:Nat→Prop}:∀ {d:Nat} {w:World} {L:Option Addr×Nat} {ks:List Nd},KidsP B ok d w L ks→KidsP B (fun b=>ok b∧b<w.heap.size) d w L ks
 | 0,_,_,_,h=>h
 | d+1,w,L,ks,⟨h1,h2,h3,h⟩=>by
  refine ⟨h1,h2,h3,?_⟩
  rcases h with h | ⟨b,off,Ls,e,hl,hb,hL,hc⟩
  · exact Or.inl h
  · exact Or.inr ⟨b,off,Ls,e,⟨hl,hb⟩,hb,hL,fun i x M hx hM=>⟨(hc i x M hx hM).1,(hc i x M hx hM).2.bound⟩⟩
theorem KidsP.keep {B:Nat} {ok:Nat→Prop} {w w':World} (hs:w.heap.size≤w'.heap.size) (hk:∀ b,ok b→b<w.heap.size→w'.heap[b]?=w.heap[b]?):∀ {d:Nat} {L:Option Addr×Nat} {ks:List Nd},KidsP B ok d w L ks→KidsP B ok d w' L ks
 | 0,_,_,h=>h
 | d+1,L,ks,⟨h1,h2,h3,h⟩=>by
  refine ⟨h1,h2,h3,?_⟩
  rcases h with h | ⟨b,off,Ls,e,hl,hb,hL,hc⟩
  · exact Or.inl h
  · refine Or.inr ⟨b,off,Ls,e,hl,Nat.lt_of_lt_of_le hb hs,hL,fun i x M hx hM=>⟨fun j v hv=>?_,(hc i x M hx hM).2.keep hs hk⟩⟩
    rw [World.cell?_of_block (w:=w) (w':=w') (hk b hl hb)]
    exact (hc i x M hx hM).1 j v hv
theorem KidsP.ext {B:Nat} {ok:Nat→Prop} {d:Nat} {w w':World} {L:Option Addr×Nat} {ks:List Nd} (h:KidsP B ok d w L ks) (he:Ext w w'):KidsP B ok d w' L ks:=h.keep he.size fun b _ hb=>he.block b hb
theorem KidsP.fr {B g:Nat} {ok:Nat→Prop} {d:Nat} {w w':World} {L:Option Addr×Nat} {ks:List Nd} (h:KidsP B ok d w L ks) (hg:∀ b,ok b→b≠g) (he:FrG g w w'):KidsP B ok d w' L ks:=h.keep he.1 fun b ho hb=>he.2 b hb (hg b ho)
theorem KidsP.nil (B d:Nat) (ok:Nat→Prop) (w:World) (A:Option Addr):KidsP B ok d w (A,0) []:=by
 cases d with
 | zero=>exact ⟨rfl,Nat.zero_le _⟩
 | succ d=>exact ⟨Nat.zero_le _,Nat.zero_le _,Nat.zero_le _,Or.inl rfl⟩
abbrev NdM:=Nd×(Option Addr×Nat)
def ncl (p:NdM):List Value:=ndc p.1 p.2
def nds (xs:List NdM):List Nd:=xs.map (·.1)
theorem ncl_len (l:List NdM):∀ c∈l.map ncl,c.length=5:=fun c hc=>by
 obtain ⟨x,_,rfl⟩:=List.mem_map.1 hc;rfl
theorem ncl_ones (l:List NdM):∀ c∈l.map ncl,∀ u∈c,u.oneCell'=true:=fun c hc u hu=>by
 obtain ⟨x,_,rfl⟩:=List.mem_map.1 hc
 simp only [ncl,ndc,List.mem_cons,List.not_mem_nil,or_false] at hu
 rcases hu with rfl | rfl | rfl | rfl | rfl <;> rfl
structure RowK (B d base:Nat) (w:World) (v:Value) (xs:List NdM):Prop where
 own:w.ownsRow base 52 5 v xs.length (xs.map ncl).flatten
 kids:∀ p∈xs,KidsP B (fun b=>base≤b∧some b≠v.ownBlock) d w p.2 p.1.kids
theorem RowK.nil (B d base:Nat) (w:World):RowK B d base w (.slice none 0 0) []:=⟨own_nil w base _ 5,fun p hp=>by cases hp⟩
theorem RowK.keep {B d base:Nat} {w w':World} {v:Value} {xs:List NdM} (h:RowK B d base w v xs) (hs:w.heap.size≤w'.heap.size) (hk:∀ b,base≤b→b<w.heap.size→w'.heap[b]?=w.heap[b]?):RowK B d base w' v xs where
 own:=by
  obtain ⟨h1,h2⟩:=h.own
  refine ⟨h1,?_⟩
  rcases h2 with h2 | ⟨g,cap,cur,e,hg,hh,r⟩
  · exact Or.inl h2
  · have hlt:g<w.heap.size:=by
      rcases Nat.lt_or_ge g w.heap.size with q | q
      · exact q
      · rw [Array.getElem?_eq_none q] at hh;cases hh
    exact Or.inr ⟨g,cap,cur,e,hg,by rw [hk g hg hlt];exact hh,r⟩
 kids p hp:=(h.kids p hp).keep hs fun b hb hl=>hk b hb.1 hl
theorem RowK.ext {B d base:Nat} {w w':World} {v:Value} {xs:List NdM} (h:RowK B d base w v xs) (he:Ext w w'):RowK B d base w' v xs:=h.keep he.size fun b _ hb=>he.block b hb
theorem RowK.fr {B d base g:Nat} {w w':World} {v:Value} {xs:List NdM} (h:RowK B d base w v xs) (hg:g<base) (he:FrG g w w'):RowK B d base w' v xs:=h.keep he.1 fun b hb hl=>he.2 b hl (by omega)
theorem RowK.set {B d base g:Nat} {w:World} {v:Value} {xs:List NdM} (h:RowK B d base w v xs) (hg:g<base) (i:Nat) (u:Value):RowK B d base (w.setCell ⟨g,i,none⟩ u) v xs:=h.fr hg (FrG.set w i u)
theorem RowK.push {B d base : Nat} {w w' : World} {v v' : Value} {xs : List NdM} (h : RowK B d base w v xs) (p : NdM) (hg : w.grownBy w' v.ownBlock) (hat : v'.ownBlock = v.ownBlock ∨ v'.ownBlock = some w.heap.size)
    (hown:w'.ownsRow base 52 5 v' (xs.length+1) ((xs ++ [p]).map ncl).flatten) (hp:KidsP B (fun b=>base≤b∧some b≠v.ownBlock) d w p.2 p.1.kids):RowK B d base w' v' (xs ++ [p]) where
 own:=by rw [List.length_append];exact hown
 kids q hq:=by
  have key:∀ {L:Option Addr×Nat} {ks:List Nd},KidsP B (fun b=>base≤b∧some b≠v.ownBlock) d w L ks→KidsP B (fun b=>base≤b∧some b≠v'.ownBlock) d w' L ks:=fun hk=>by
   refine (hk.bound.keep hg.size fun b hb hl=>hg.block b hl fun e=>hb.1.2 e).mono fun b hb=>⟨hb.1.1,fun e=>?_⟩
   rcases hat with hk | hk
   · exact hb.1.2 (e.trans hk)
   · rw [hk] at e
     have h1:=hb.2
     have h2:=Option.some.inj e
     omega
  rcases List.mem_append.1 hq with hq | hq
  · exact key (h.kids q hq)
  · rw [List.mem_singleton] at hq
    subst hq
    exact key hp
theorem RowK.done {B d base n:Nat} {w:World} {A:Option Addr} {c:Nat} {xs:List NdM} (h:RowK B d base w (.slice A n c) xs) (hn:xs.length=n) (hB:n≤B):KidsP B (fun b=>base≤b) (d+1) w (A,c) (nds xs):=by
 obtain ⟨hl,h2⟩:=h.own
 have hnl:(nds xs).length=n:=by rw [← hn];exact List.length_map _
 rcases h2 with ⟨e,h0⟩ | ⟨g,cap,cur,e,hg,hh,h1,h2,h3,h4⟩
 · cases e
   have:xs=[]:=List.eq_nil_of_length_eq_zero (by omega)
   subst this
   exact KidsP.nil _ _ _ _ _
 · cases e
   have hlt:g<w.heap.size:=by
    rcases Nat.lt_or_ge g w.heap.size with e | e
    · exact e
    · rw [Array.getElem?_eq_none e] at hh;cases hh
   refine ⟨by omega,by simp only;omega,h2,Or.inr ⟨g,0,xs.map (·.2),rfl,hg,hlt,by rw [List.length_map,hnl,hn],fun i x M hx hM=>?_⟩⟩
   have hi:i<xs.length:=by
    have:=(List.getElem?_eq_some_iff.1 hx).1
    rw [hnl] at this
    omega
   have hx':x=xs[i].1:=by
    unfold nds at hx
    rw [List.getElem?_map,List.getElem?_eq_getElem hi] at hx
    exact (Option.some.inj hx).symm
   have hM':M=xs[i].2:=by
    rw [List.getElem?_map,List.getElem?_eq_getElem hi] at hM
    exact (Option.some.inj hM).symm
   subst hx' hM'
   refine ⟨fun j u hu=>?_,(h.kids _ (List.getElem_mem hi)).mono fun b hb=>hb.1⟩
   have hi':(xs.map ncl)[i]?=some (ncl xs[i]):=by rw [List.getElem?_map,List.getElem?_eq_getElem hi];rfl
   have h5:=flatten_at (ncl_len xs) hi' hu
   rw [← h4] at h5
   rw [Nat.zero_add,cell_of_row w g (i*5+j) cur _ _ hh]
   have hlt2:i*5+j<xs.length*5:=by
    rcases Nat.lt_or_ge (i*5+j) (xs.length*5) with e | e
    · exact e
    · rw [List.getElem?_eq_none (by rw [List.length_take];omega)] at h5;cases h5
   rw [List.getElem?_take_of_lt hlt2] at h5
   simpa using h5
section
variable {P:Program} {ops:Array Oper} {Q:Exit→Act→World→Prop} {m:Nat} {ds:List Nat} {cons:Nat→Option Nat} {R:Nat→Option Value→World→Prop} {B:World}
theorem region_tbD {id : Nat} {a : Act} {w : World} (d : List Deferred) (hd0 : a.defers = d) (hm : P.follows .mixedOrders = true) (hac : ops.toList.zipIdx.all (fun p => p.1.after.all fun e => !Region.binds .any e || decide (e.on < p.2)) = true)
    (E:Array Value→Prop) (hE:E a.tmps) (m:Nat) (ds:List Nat) (cons:Nat→Option Nat) (R:Nat→Option Value→World→Prop) (B:World) (hB:Ext B w) (hv:∀ i,ops.size≤i→i<m→R i none w.drew)
    (hstep:∀ (t:Array Value) (l:Nat→Bool) (U:Nat→Option Value) (w:World) (i:Nat) (o:Oper),E t→ops[i]?=some o→l i=false→(∀ e∈o.after,Region.binds .any e=true→l e.on=true)→Tb ops m ds cons R B l U w →
     wpOp P ops Q i (fun a' w'=>∃ U',a'=⟨over t U',d⟩∧Tb ops m ds cons R B (fun j=>if j=i then true else l j) U' w') ⟨over t U,d⟩ w)
    (hdone:∀ U w,Ext B w→(∀ k,ds.contains k=false→U k=none)→(∀ i,i<m→cons i=none→R i (U (ds.getD i 0)) w)→Q .normal ⟨over a.tmps U,d⟩ w):(Code.region id ops true).wp P Q a w:=by
 subst hd0
 refine region_inv hm (fun l a' w'=>∃ U,a'=⟨over a.tmps U,a.defers⟩∧Tb ops m ds cons R B l U w') hac ⟨fun _=>none,by rw [over_none],?_⟩ ?_ ?_
 · refine ⟨hB.drew,fun _ _=>rfl,fun i o ho hl=>?_,fun i hi=>by simp [Nat.not_lt.2 hi],fun i hi hl _=>?_⟩
   · have:i<ops.size:=by
       rcases Nat.lt_or_ge i ops.size with g | g
       · exact g
       · rw [Array.getElem?_eq_none g] at ho;cases ho
     simp [this] at hl
   · refine hv i ?_ hi
     simpa using hl
 · rintro l a' w' i o ho hl hd ⟨U,rfl,hJ⟩
   exact hstep a.tmps l U w' i o hE ho hl hd hJ
 · rintro a' w' ⟨U,rfl,h⟩
   exact hdone U w' h.ext h.out (fun i hi hc=>h.facts i hi rfl (fun c e=>by rw [hc] at e;cases e))
theorem tb_callP {t : Array Value} {d : List Deferred} {l : Nat → Bool} {U : Nat → Option Value} {w : World} {i : Nat} {o : Oper} {f : FuncId} {args : Array Value} (h : Tb ops m ds cons R B l U w) (ho : ops[i]? = some o) (hd : ∀ e ∈ o.after, Region.binds .any e = true → l e.on = true)
    (hg:o.guard=none) (hk:o.dst=some (ds.getD i 0)) (hin:ds.contains (ds.getD i 0)=true) (hinj:∀ j,j<m→j≠i→ds.getD j 0≠ds.getD i 0)
    (hr:(execOp (Act.eval ⟨over t U,d⟩) o).run P w=.ok (.enter f args) w)
    (hc:Calls P f args w fun e w'=>(∃ ch,e=.panicked ch∧Q (.panic ch) ⟨over t U,d⟩ w')∨∃ v,e=.returned v∧Ext B w'∧R i (some v) w'∧(∀ j,j<m→j≠i→l j=true→(∀ c,cons j=some c→c≠i∧l c=false)→R j (U (ds.getD j 0)) w→R j (U (ds.getD j 0)) w')) :
    wpOp P ops Q i (fun a' w'=>∃ U',a'=⟨over t U',d⟩∧Tb ops m ds cons R B (fun j=>if j=i then true else l j) U' w') ⟨over t U,d⟩ w:=by
 refine wpOp_plain ho hg ?_
 unfold Oper.wp
 rw [hr,Oper.upon_enter]
 refine hc.mono ?_
 rintro e w' (⟨ch,rfl,hq⟩ | ⟨v,rfl,hx,hR,hst⟩)
 · exact hq
 · refine ⟨upd U (ds.getD i 0) v,?_,h.put ho hd hin hinj hx hR hst⟩
   rw [hk]
   exact put_over t U d _ v
end
namespace Bu
theorem xor_zero64 (x:Nat) (hx:x<9223372036854775808):bits .xor .i64 (x:Int) 0=(x:Int):=by
 show IntKind.i64.wrap ((BitVec.ofInt 64 (x:Int) ^^^ BitVec.ofInt 64 0).toNat:Int)=_
 have h2:(BitVec.ofInt 64 (x:Int)).toNat=x:=by
  rw [BitVec.ofInt_natCast,BitVec.toNat_ofNat];exact Nat.mod_eq_of_lt (by omega)
 rw [show BitVec.ofInt 64 0=0#64 by decide,BitVec.xor_zero,h2,IntKind.wrap_i64]
 omega
theorem xor_ones_r (x:Nat) (hx:x<9223372036854775808):bits .xor .i64 (x:Int) (-1)=-(x:Int)-1:=by
 rw [← Lib.i64_not x hx]
 show IntKind.i64.wrap ((BitVec.ofInt 64 (x:Int) ^^^ BitVec.ofInt 64 (-1)).toNat:Int)=IntKind.i64.wrap ((BitVec.ofInt 64 (-1) ^^^ BitVec.ofInt 64 (x:Int)).toNat:Int)
 rw [BitVec.xor_comm]
def cnt (en:Int) (most:Nat) (r:List Int):Except Int (Nat×List Int):=match vr en r with
 | .error e=>.error e
 | .ok (x,l)=>if most<x then .error 5 else .ok (x,l)
end Bu
set_option maxRecDepth 100000 in
set_option maxHeartbeats 12800000 in
theorem unfold_any (x:Nat) (hx:x<18446744073709551616) (w:World):Calls Tryz.prog 134 #[.int .u64 (x:Int)] w fun e w'=>e=.returned (.int .i64 (Bu.unf x))∧w=w':=by
 have h1:bits BinOp.and IntKind.u64 (x:Int) 1=(x:Int) % 2:=Lib.u64_and1 _ (by omega) (by omega)
 have hh:x / 2<9223372036854775808:=by omega
 rcases Nat.mod_two_eq_zero_or_one x with h | h
 · have h2:(x:Int) % 2=0:=by omega
   rw [h2] at h1
   have HF:Hid (bits BinOp.xor IntKind.i64 ((x:Int) / 2) 0=Bu.unf x):=Hi (by
    have:=Bu.xor_zero64 (x / 2) hh
    rw [show ((x / 2:Nat):Int)=(x:Int) / 2 by omega] at this
    rw [this]
    unfold Bu.unf
    rw [if_pos h]
    omega)
   have h3:(x:Int) / 2≤9223372036854775807:=by omega
   have h4:0≤(x:Int) / 2:=by omega
   clear h h2
   go_enter Tryz.func134,Tryz.ntmps134
   go_wp2
   go_ret
   exact ⟨by rw [← HF.out];rfl,rfl⟩
 · have h2:(x:Int) % 2=1:=by omega
   rw [h2] at h1
   have HF:Hid (bits BinOp.xor IntKind.i64 ((x:Int) / 2) (-1)=Bu.unf x):=Hi (by
    have:=Bu.xor_ones_r (x / 2) hh
    rw [show ((x / 2:Nat):Int)=(x:Int) / 2 by omega] at this
    rw [this]
    unfold Bu.unf
    rw [if_neg (by omega)]
    omega)
   have h3:(x:Int) / 2≤9223372036854775807:=by omega
   have h4:0≤(x:Int) / 2:=by omega
   clear h h2
   go_enter Tryz.func134,Tryz.ntmps134
   go_wp2
   go_ret
   exact ⟨by rw [← HF.out];rfl,rfl⟩
set_option maxRecDepth 100000 in
set_option maxHeartbeats 12800000 in
theorem count_any (W0 : World) (g : Nat) (A : Option Addr) (bs : List Int) (n c i : Nat) (en : Int) (r : List Int) (hB : Bu.Byt bs) (hr : Rst W0 A bs n i r) (hc : n ≤ c) (hn : n ≤ 1048576) (most : Nat) (hm : most ≤ 2000) (w : World) (h : RdAt W0 w g A n c i en) :
    Calls Tryz.prog 135 #[.pointer (some ⟨g,0,none⟩),.int .i64 (most:Int)] w fun e w'=>RdPost W0 g A n c en (Bu.cnt en most r) (fun x v _=>x≤most∧v=.int .i64 (x:Nat)) w e w':=by
 have K:=Hi (varint_any W0 g A bs n c i en r hB hr hc hn w h)
 unfold Bu.cnt
 clear hr h
 cases hv:Bu.vr en r with
 | error er =>
  rw [hv] at K
  clear hv
  go_enter Tryz.func135,Tryz.ntmps135
  go_wp2_with fail
  with_reducible refine K.out.mono ?_
  rintro e w2 ⟨h1,h2,rfl⟩
  exact ⟨rfl,h1,h2,rfl⟩
 | ok p =>
  obtain ⟨x,l⟩:=p
  have hx:=Bu.vr_u64 hv
  rw [hv] at K
  clear hv
  by_cases hlt:most<x
  · have HI:Hid ((if most<x then (.error 5:Except Int (Nat×List Int)) else .ok (x,l))=.error 5):=Hi (if_pos hlt)
    simp only
    rw [HI.out]
    have hm2:(most:Int)<(x:Int):=by omega
    clear hlt
    go_enter Tryz.func135,Tryz.ntmps135
    go_wp2_with fail
    with_reducible refine K.out.mono ?_
    rintro e w2 ⟨h1,h2,v,rfl,rfl,h4,h5⟩
    have H1:=Hi h1
    have H2:=Hi h2
    clear h1 h2 h4 h5
    go_wp2_with fail
    with_reducible refine (fail_any 5 _).mono ?_
    rintro e _ ⟨rfl,rfl⟩
    exact ⟨rfl,H1.out,H2.out,rfl⟩
  · have HI:Hid ((if most<x then (.error 5:Except Int (Nat×List Int)) else .ok (x,l))=.ok (x,l)):=Hi (if_neg hlt)
    simp only
    rw [HI.out]
    have hm2:(x:Int)≤(most:Int):=by omega
    have hm3:¬ (most:Int)<(x:Int):=by omega
    go_enter Tryz.func135,Tryz.ntmps135
    go_wp2_with fail
    with_reducible refine K.out.mono ?_
    rintro e w2 ⟨h1,h2,v,rfl,rfl,h4,h5⟩
    have H1:=Hi h1
    have H2:=Hi h2
    have H4:=Hi h4
    have H5:=Hi h5
    clear h1 h2 h4 h5
    go_wp2
    go_ret
    exact ⟨H1.out,H2.out,_,rfl,⟨by omega,rfl⟩,H4.out,H5.out⟩
def NodeAt (W0 : World) (g : Nat) (A : Option Addr) (bs : List Int) (n c : Nat) (en : Int) (f : Nat) : Prop := ∀ (i : Nat) (r : List Int) (w : World), Rst W0 A bs n i r → RdAt W0 w g A n c i en →
    Calls Tryz.prog 107 #[.pointer (some ⟨g,0,none⟩),.int .i64 (9-(f:Int))] w fun e w'=>RdPost W0 g A n c en (Bu.dNd en f r) (fun x v w'=>∃ M,v=nda x M∧KidsP 1024 (fun b=>w.heap.size≤b) f w' M x.kids) w e w'
theorem FrG.blk {g q:Nat} {w w':World} {o:Obj} (h:FrG g w w') (hq:w.heap[q]?=some o) (hn:q≠g):w'.heap[q]?=some o:=by
 have hlt:q<w.heap.size:=by
  rcases Nat.lt_or_ge q w.heap.size with e | e
  · exact e
  · rw [Array.getElem?_eq_none e] at hq;cases hq
 rw [h.2 q hlt hn]
 exact hq
theorem Rst.of {W0:World} {A:Option Addr} {bs:List Int} {n i:Nat} {r:List Int} (h:Rst W0 A bs n i r) {l:List Int} {k:Nat} (hl:l=r.drop k) (hk:k≤r.length):Rst W0 A bs n (n-l.length) l:=by
 subst hl
 have h1:=h.step hk
 have h2:=h1.rlen
 have h3:=h1.le
 rw [h2,show n-(n-(i+k))=i+k by omega]
 exact h1
theorem FrG.setN {g q:Nat} {w w':World} (h:FrG g w w') (hq:w.heap.size≤q) (i:Nat) (v:Value):FrG g w (w'.setCell ⟨q,i,none⟩ v):=⟨by simpa [World.setCell] using h.1,fun k hk hn=>by rw [Below.heap_setCell _ _ _ _ (show k≠q by omega)];exact h.2 k hk hn⟩
theorem FrG.rowN {g q:Nat} {w w':World} (h:FrG g w w') (hq:w.heap.size≤q) (cs:Array Value):FrG g w (w'.setRow q cs):=⟨by simpa [World.setRow] using h.1,fun k hk hn=>by rw [setRow_other _ _ (show k≠q by omega)];exact h.2 k hk hn⟩
theorem RdAt.setO {W0 w:World} {g:Nat} {A:Option Addr} {n c i:Nat} {en:Int} (h:RdAt W0 w g A n c i en) {q:Nat} (hq:q≠g) (h0:W0.heap.size≤q) (j:Nat) (v:Value):RdAt W0 (w.setCell ⟨q,j,none⟩ v) g A n c i en :=
 ⟨by rw [Below.heap_setCell _ _ _ _ (show g≠q from Ne.symm hq)];exact h.blk,h.ext.setCell h0 _,h.new⟩
theorem RdAt.rowO {W0 w:World} {g:Nat} {A:Option Addr} {n c i:Nat} {en:Int} (h:RdAt W0 w g A n c i en) {q:Nat} (hq:q≠g) (h0:W0.heap.size≤q) (cs:Array Value):RdAt W0 (w.setRow q cs) g A n c i en :=
 ⟨by rw [setRow_other _ _ (show g≠q from Ne.symm hq)];exact h.blk,h.ext.setRow h0 _,h.new⟩
theorem lt_size {w:World} {q:Nat} {o:Obj} (h:w.heap[q]?=some o):q+1≤w.heap.size:=by
 rcases Nat.lt_or_ge q w.heap.size with e | e
 · exact e
 · rw [Array.getElem?_eq_none e] at h;cases h
theorem conv_any (w : World) (A : Option Addr) (len cap : Nat) (xs : List Int) (hlen : xs.length = len) (h : SlU w A xs) :
    (convert 24 9 (.slice A len cap)).run Tryz.prog w=.ok (.string (Bu.toB xs)) w:=by
 rcases Nat.eq_zero_or_pos len with h0 | h0
 · subst h0
   obtain rfl:=List.eq_nil_of_length_eq_zero hlen
   rw [run_convert_bytes_string w 24 9 5 A 0 cap Tryz.underlying24 Tryz.underlying5 Tryz.underlying9]
   cases A with
   | none=>simp [Conv.bytesToString,Bu.toB];rfl
   | some a=>simp [Conv.bytesToString,loadCells,Bu.toB];rfl
 · obtain ⟨b,off,rfl,-,-⟩:=h.at_ (i:=0) (by omega)
   exact conv_u8 w b off len cap xs hlen h
namespace Bu
theorem vr_rest {en:Int}:∀ (f i acc:Nat) (r:List Int) (x:Nat) (l:List Int),vrA en f i acc r=.ok (x,l)→∃ k,l=r.drop k∧k≤r.length
 | 0,_,_,_,_,_,h=>by cases h
 | _+1,_,_,[],_,_,h=>by cases h
 | f+1,i,acc,y :: r,x,l,h=>by
  rw [vrA] at h
  split at h
  · cases h
  · split at h
    · cases h
      exact ⟨1,rfl,by simp⟩
    · obtain ⟨k,hk,hl⟩:=vr_rest f (i+1) _ r x l h
      exact ⟨k+1,by rw [hk];rfl,by simp;omega⟩
theorem dBd_2 (en:Int) (p:List Int→Except Int (Nd×List Int)) (t:Nat) (l:List Int):dBd en p t 2 l=match cnt en 2000 l with
    | .error e=>.error e
    | .ok (m,l3)=>if l3.length<m then .error en else .ok (.mk t 2 0 (toB (l3.take m)) [],l3.drop m):=by
 unfold dBd cnt
 rw [if_neg (by decide)]
 cases vr en l with
 | error e=>rfl
 | ok p =>
  obtain ⟨x,l3⟩:=p
  simp only [if_neg (show ¬ (2:Int)=1 by decide),if_true]
  unfold dSt
  by_cases h:2000<x
  · rw [if_pos h,if_pos h]
  · rw [if_neg h,if_neg h]
theorem dBd_3 (en:Int) (p:List Int→Except Int (Nd×List Int)) (t:Nat) (l:List Int):dBd en p t 3 l=match cnt en 1024 l with
    | .error e=>.error e
    | .ok (m,l3)=>match dKs p m l3 with
      | .error e=>.error e
      | .ok (xs,l4)=>.ok (.mk t 3 0 ⟨#[]⟩ xs,l4):=by
 unfold dBd cnt
 rw [if_neg (by decide)]
 cases vr en l with
 | error e=>rfl
 | ok p =>
  obtain ⟨x,l3⟩:=p
  simp only [if_neg (show ¬ (3:Int)=1 by decide),if_neg (show ¬ (3:Int)=2 by decide)]
  unfold dLs
  by_cases h:1024<x
  · rw [if_pos h,if_pos h]
  · rw [if_neg h,if_neg h]
    show _=(match dKs p x l3 with
     | .error e=>Except.error e
     | .ok (xs,l4)=>Except.ok (Nd.mk t 3 0 ⟨#[]⟩ xs,l4))
    cases dKs p x l3 with
    | error e=>rfl
    | ok q=>rfl
theorem cnt_rest {en:Int} {most:Nat} {r:List Int} {x:Nat} {l:List Int} (h:cnt en most r=.ok (x,l)):x≤most∧∃ k,l=r.drop k∧k≤r.length:=by
 unfold cnt at h
 cases hv:vr en r with
 | error e=>rw [hv] at h;cases h
 | ok p =>
  obtain ⟨y,l'⟩:=p
  rw [hv] at h
  simp only at h
  split at h
  · cases h
  · cases h
    exact ⟨by omega,vr_rest 10 0 0 r x l hv⟩
end Bu
namespace Bu
theorem dKs_stuck {p:List Int→Except Int (Nd×List Int)} {l:List Int} {er:Int} {j:Nat} (h:dKs p j l=.error er):∀ d,dKs p (j+d) l=.error er
 | 0=>h
 | d+1=>by rw [← Nat.add_assoc,dKs,dKs_stuck h d]
def Sfx (l r:List Int):Prop:=∃ k,l=r.drop k∧k≤r.length
theorem Sfx.refl (l:List Int):Sfx l l:=⟨0,rfl,Nat.zero_le _⟩
theorem Sfx.trans {a b c:List Int} (h:Sfx a b) (g:Sfx b c):Sfx a c:=by
 obtain ⟨k,rfl,hk⟩:=h
 obtain ⟨m,rfl,hm⟩:=g
 rw [List.length_drop] at hk
 exact ⟨m+k,List.drop_drop,by omega⟩
theorem dKs_rest {p:List Int→Except Int (Nd×List Int)} (hp:∀ r x l,p r=.ok (x,l)→Sfx l r):∀ (n:Nat) (r:List Int) (xs:List Nd) (l:List Int),dKs p n r=.ok (xs,l)→Sfx l r
 | 0,r,xs,l,h=>by cases h;exact Sfx.refl _
 | n+1,r,xs,l,h=>by
  rw [dKs] at h
  cases h1:dKs p n r with
  | error e=>rw [h1] at h;cases h
  | ok q =>
   obtain ⟨ys,l1⟩:=q
   rw [h1] at h
   simp only at h
   cases h2:p l1 with
   | error e=>rw [h2] at h;cases h
   | ok z =>
    obtain ⟨y,l2⟩:=z
    rw [h2] at h
    cases h
    exact (hp _ _ _ h2).trans (dKs_rest hp n r ys l1 h1)
theorem dNd_rest (en:Int):∀ (f:Nat) (r:List Int) (x:Nd) (l:List Int),dNd en f r=.ok (x,l)→Sfx l r
 | 0,_,_,_,h=>by cases h
 | f+1,r,x,l,h=>by
  rw [dNd] at h
  cases hv:vr en r with
  | error e=>rw [hv] at h;cases h
  | ok p =>
   obtain ⟨t,l1⟩:=p
   rw [hv] at h
   simp only at h
   have s1:Sfx l1 r:=vr_rest 10 0 0 r t l1 hv
   unfold dTg at h
   split at h
   · cases h
   · cases l1 with
     | nil=>cases h
     | cons k l2 =>
      simp only at h
      have s2:Sfx l2 (k :: l2):=⟨1,rfl,by simp⟩
      unfold dBd at h
      split at h
      · cases h
      · cases hv2:vr en l2 with
        | error e=>rw [hv2] at h;cases h
        | ok p2 =>
         obtain ⟨m,l3⟩:=p2
         rw [hv2] at h
         simp only at h
         have s3:Sfx l3 r:=(Sfx.trans (vr_rest 10 0 0 l2 m l3 hv2) s2).trans s1
         split at h
         · cases h;exact s3
         · split at h
           · unfold dSt at h
             split at h
             · cases h
             · split at h
               · cases h
               · cases h
                 exact Sfx.trans ⟨m,rfl,by omega⟩ s3
           · unfold dLs at h
             split at h
             · cases h
             · cases hk:dKs (dNd en f) m l3 with
               | error e=>rw [hk] at h;cases h
               | ok q =>
                obtain ⟨xs,l4⟩:=q
                rw [hk] at h
                cases h
                exact (dKs_rest (dNd_rest en f) m l3 xs l hk).trans s3
end Bu
def rdR (W0:World) (g:Nat) (A:Option Addr) (n c i i':Nat) (en:Int) (w0:World) (q f:Nat) (t:Int) (lv:Int) (v:Value) (xs:List NdM) (ok:Bool) (x:Nd) (j:Nat) (u:Option Value) (w:World):Prop :=
 match j with
 | 0=>u=some (.pointer (some ⟨q,4,none⟩))
 | 1=>u=some v
 | 2=>u=some (.pointer (some ⟨g,0,none⟩))
 | 3=>u=some (.int .i64 lv)
 | 4=>u=some (.int .i64 (lv+1))
 | 5=>ok=true∧RdAt W0 w g A n c i' en∧∃ M:Option Addr×Nat,u=some (nda x M)∧KidsP 1024 (fun b=>q+1≤b∧some b≠v.ownBlock) f w M x.kids
 | 6=>ok=true∧∃ (p:Nat) (M:Option Addr×Nat),u=some (.slice (some ⟨p,0,none⟩) 1 1)∧Sl w 5 (some ⟨p,0,none⟩) ([((x,M):NdM)].map ncl)∧KidsP 1024 (fun b=>q+1≤b∧some b≠v.ownBlock) f w M x.kids
 | 7=>ok=true∧∃ (v':Value) (M:Option Addr×Nat),u=some v'∧RowK 1024 f (q+1) w v' (xs ++ [(x,M)])
 | 8=>u=some (.pointer (some ⟨q,4,none⟩))
 | 9=>ok=true∧RdAt W0 w g A n c i' en∧∃ (v':Value) (M:Option Addr×Nat),w.heap[q]?=some (.cells #[.int .i64 t,.int .i64 3,.int .i64 0,.string ⟨#[]⟩,v'] 52 (0,0))∧RowK 1024 f (q+1) w v' (xs ++ [(x,M)])
 | 10=>w.heap[q]?=some (.cells #[.int .i64 t,.int .i64 3,.int .i64 0,.string ⟨#[]⟩,v] 52 (0,0))
 | 11=>RowK 1024 f (q+1) w v xs
 | 12=>RdAt W0 w g A n c i en
 | _=>FrG g w0 w∧w.heap[w0.heap.size]?=some (.cells #[.int .i64 0,.int .i64 0,.int .i64 0,.string ⟨#[]⟩,.slice none 0 0] 52 (0,0))
def rdC:Nat→Option Nat
 | 5=>some 9
 | 6=>some 7
 | 7=>some 9
 | 10=>some 9
 | 11=>some 7
 | 12=>some 5
 | _=>none
def rdD:List Nat:=[46,47,48,49,50,51,52,53,54,1000,1001,1002,1003,1004]
def rdE (g q:Nat) (lv:Int) (t:Array Value):Prop:=t.getD 0 undef=.pointer (some ⟨g,0,none⟩)∧t.getD 1 undef=.int .i64 lv∧t.getD 6 undef=.pointer (some ⟨q,0,none⟩)∧t.size=57
theorem rdR_ext (W0:World) (g:Nat) (A:Option Addr) (n c i i':Nat) (en:Int) (w0:World) (q f:Nat) (t:Int) (lv:Int) (v:Value) (xs:List NdM) (ok:Bool) (x:Nd) (j:Nat) (u:Option Value) (w w':World) (he:Ext w w') (h:rdR W0 g A n c i i' en w0 q f t lv v xs ok x j u w):rdR W0 g A n c i i' en w0 q f t lv v xs ok x j u w':=by
 match j,h with
 | 0,h=>exact h
 | 1,h=>exact h
 | 2,h=>exact h
 | 3,h=>exact h
 | 4,h=>exact h
 | 5,⟨h1,h2,M,h3,h4⟩=>exact ⟨h1,h2.later he,M,h3,h4.ext he⟩
 | 6,⟨h1,p,M,h2,h3,h4⟩=>exact ⟨h1,p,M,h2,h3.ext he,h4.ext he⟩
 | 7,⟨h1,v',M,h2,h3⟩=>exact ⟨h1,v',M,h2,h3.ext he⟩
 | 8,h=>exact h
 | 9,⟨h1,h2,v',M,h3,h4⟩=>exact ⟨h1,h2.later he,v',M,he.blockAt h3,h4.ext he⟩
 | 10,h=>exact he.blockAt h
 | 11,h=>exact h.ext he
 | 12,h=>exact h.later he
 | j+13,⟨h1,h2⟩=>exact ⟨h1.trans (FrG.ext he),he.blockAt h2⟩
theorem sl_oneN (w:World) (p:NdM) (t:TypeId):Sl (w.alloc (.cells (ncl p).toArray t)) 5 (some ⟨w.heap.size,0,none⟩) ([p].map ncl):=by
 refine Or.inr ⟨w.heap.size,0,rfl,by simp,fun i cs hi j v hv=>?_⟩
 match i,hi with
 | 0,hi =>
  simp at hi
  subst hi
  rw [World.cell?_alloc_new]
  simpa using hv
set_option maxRecDepth 100000 in
set_option maxHeartbeats 25600000 in
theorem node_zero (W0:World) (g:Nat) (A:Option Addr) (bs:List Int) (n c:Nat) (en:Int):NodeAt W0 g A bs n c en 0:=by
 intro i r w hr h
 have HX:Hid (Ext W0 (w.alloc (.cells #[.int .i64 0,.int .i64 0,.int .i64 0,.string ⟨#[]⟩,.slice none 0 0] 52))):=Hi (h.ext.alloc _)
 have HF:Hid (FrG g w (w.alloc (.cells #[.int .i64 0,.int .i64 0,.int .i64 0,.string ⟨#[]⟩,.slice none 0 0] 52))):=Hi (FrG.ext ((Ext.refl w).alloc _))
 clear h hr
 go_enter Tryz.func107,Tryz.ntmps107
 go_wp2_with fail
 with_reducible refine (fail_any 5 _).mono ?_
 rintro e _ ⟨rfl,rfl⟩
 exact ⟨rfl,HX.out,HF.out,rfl⟩
set_option maxRecDepth 100000 in
set_option maxHeartbeats 25600000 in
theorem node_succ (W0:World) (g:Nat) (A:Option Addr) (bs:List Int) (hB:Bu.Byt bs) (n c:Nat) (hc:n≤c) (hn:n≤1048576) (en:Int) (f:Nat) (hf8:f≤7) (IH:NodeAt W0 g A bs n c en f):NodeAt W0 g A bs n c en (f+1):=by
 intro i r w hr h
 have HV:=Hi (fun i r w hr h=>varint_any W0 g A bs n c i en r hB hr hc hn w h)
 have HT:=Hi (fun i r w hr h=>take1_any W0 g A bs n c i en r hr hc hn w h)
 have HTK:=Hi (fun i r k hk w hr h=>take_any W0 g A bs n c i en r hr hc hn k hk w h)
 have HCN:=Hi (fun i r m hm w hr h=>count_any W0 g A bs n c i en r hB hr hc hn m hm w h)
 have HIH:=Hi IH
 have HBY:=Hi hB
 obtain ⟨W1,hW1⟩:∃ W,(w.alloc (.cells #[.int .i64 0,.int .i64 0,.int .i64 0,.string ⟨#[]⟩,.slice none 0 0] 52))=W:=⟨_,rfl⟩
 have X1:Hid (Ext w W1):=Hi (by rw [← hW1];exact (Ext.refl _).alloc _)
 have HBR:Hid (W1.heap[w.heap.size]?=some (.cells #[.int .i64 0,.int .i64 0,.int .i64 0,.string ⟨#[]⟩,.slice none 0 0] 52 (0,0))):=Hi (by rw [← hW1];exact heap_alloc_new _ _)
 have HS1:Hid (W1.heap.size=w.heap.size+1):=Hi (by rw [← hW1];simp)
 have HRD:=Hi (h.later X1.out)
 have HRS:=Hi hr
 have hgw:g<w.heap.size:=h.lt
 have HE1:=Hi hW1
 clear h hr IH hB hW1
 have hlv:decide ((8:Int)<9-((f+1:Nat):Int))=false:=decide_eq_false (by omega)
 obtain ⟨lv,hlvv⟩:∃ lv:Int,9-((f+1:Nat):Int)=lv:=⟨_,rfl⟩
 rw [hlvv] at hlv ⊢
 have hlv8:lv≤8:=by omega
 have hlv0:0≤lv:=by omega
 have HLV:Hid (lv+1=9-(f:Int)):=Hi (by omega)
 clear hlvv
 cases hv:Bu.vr en r with
 | error er =>
  have HR:Hid (Bu.dNd en (f+1) r=.error er):=Hi (by rw [Bu.dNd,hv])
  have K:=HV.out i r W1 HRS.out HRD.out
  rw [hv] at K
  have HK:=Hi K
  clear hv K
  go_enter Tryz.func107,Tryz.ntmps107
  go_wp2_with (rw [HE1.out])
  with_reducible refine HK.out.mono ?_
  rintro e w2 ⟨h1,h2,rfl⟩
  exact ⟨rfl,h1,(FrG.ext X1.out).trans h2,by rw [HR.out]⟩
 | ok p =>
  obtain ⟨t,l1⟩:=p
  have ht:=Bu.vr_u64 hv
  obtain ⟨k1,hk1,hk2⟩:=Bu.vr_rest 10 0 0 r t l1 hv
  have HRS1:=Hi (HRS.out.of hk1 hk2)
  have HR0:Hid (Bu.dNd en (f+1) r=Bu.dTg en (Bu.dNd en f) t l1):=Hi (by rw [Bu.dNd,hv])
  have K:=HV.out i r W1 HRS.out HRD.out
  rw [hv] at K
  have HK:=Hi K
  clear hv K hk1 hk2
  go_enter Tryz.func107,Tryz.ntmps107
  go_wp2_with (rw [HE1.out])
  with_reducible refine HK.out.mono ?_
  rintro e w2 ⟨h1,h2,v,rfl,rfl,h4,h5⟩
  have HX:=Hi h1
  have HF:=Hi ((FrG.ext X1.out).trans h2)
  have HBR2:=Hi (h2.blk HBR.out (by omega))
  have HRD1:=Hi h5
  have hs2:w.heap.size+1≤w2.heap.size:=by rw [← HS1.out];exact h2.1
  have HV2:=HV
  clear h1 h2 h4 h5 HK HV
  by_cases h9:9999999<t
  · have HR:Hid (Bu.dNd en (f+1) r=.error 3):=Hi (by rw [HR0.out];unfold Bu.dTg;rw [if_pos h9])
    have h9i:(9999999:Int)<(t:Int):=by omega
    go_wp2_with fail
    with_reducible refine (fail_any 3 _).mono ?_
    rintro e _ ⟨rfl,rfl⟩
    exact ⟨rfl,HX.out,HF.out,by rw [HR.out]⟩
  · have h9i:(t:Int)≤9999999:=by omega
    have h9n:¬ (9999999:Int)<(t:Int):=by omega
    cases l1 with
    | nil =>
     have HR:Hid (Bu.dNd en (f+1) r=.error en):=Hi (by rw [HR0.out];unfold Bu.dTg;rw [if_neg h9])
     have K:=HT.out _ _ w2 HRS1.out HRD1.out
     rw [if_pos (show ([]:List Int).length<1 by decide)] at K
     have HK:=Hi K
     clear K
     go_wp2_with fail
     with_reducible refine HK.out.mono ?_
     rintro e w3 ⟨h1,h2,rfl⟩
     exact ⟨rfl,h1,HF.out.trans h2,by rw [HR.out]⟩
    | cons kd l2 =>
     have HR1:Hid (Bu.dNd en (f+1) r=Bu.dBd en (Bu.dNd en f) t kd l2):=Hi (by rw [HR0.out];unfold Bu.dTg;rw [if_neg h9])
     have K:=HT.out _ _ w2 HRS1.out HRD1.out
     rw [if_neg (show ¬ (kd :: l2).length<1 by simp)] at K
     have HK:=Hi K
     have HRS2:Hid (Rst W0 A bs n (n-l2.length) l2):=Hi (HRS1.out.of (k:=1) rfl (by simp))
     have hkb:0≤kd∧kd<256:=HBY.out kd (by
      have:=HRS1.out.drop
      exact List.mem_of_mem_drop (by rw [this];exact List.mem_cons_self ..))
     obtain ⟨hkd0,hkd1⟩:=hkb
     clear K h9
     go_wp2_with fail
     with_reducible refine HK.out.mono ?_
     rintro e w3 ⟨h1,h2,v,rfl,⟨A3,c3,rfl,hs3⟩,h4,h5⟩
     obtain ⟨b3,o3,rfl,hb3,hcell⟩:=hs3.at_ (i:=0) (by simp)
     simp only [List.take_succ_cons,List.take_zero,List.getElem_cons_zero,Nat.add_zero] at hcell
     have HX3:=Hi h1
     have HF3:=Hi (HF.out.trans h2)
     have HBR3:=Hi (h2.blk HBR2.out (by omega))
     have HRD2:Hid (RdAt W0 w3 g A n c (n-l2.length) en):=Hi h5
     have hs3':w.heap.size+1≤w3.heap.size:=Nat.le_trans hs2 h2.1
     clear h1 h2 h4 h5 HK HX HF HBR2 HRD1 hs3 HBR HRD HRS HRS1 HR0 X1 HS1 HE1
     obtain ⟨W4,hW4⟩:∃ W,w3.alloc (.cells #[.int .i64 (t:Int),.int .i64 kd,.int .i64 0,.string ⟨#[]⟩,.slice none 0 0] 52)=W:=⟨_,rfl⟩
     have X4:Hid (Ext w3 W4):=Hi (by rw [← hW4];exact (Ext.refl _).alloc _)
     have HBQ:Hid (W4.heap[w3.heap.size]?=some (.cells #[.int .i64 (t:Int),.int .i64 kd,.int .i64 0,.string ⟨#[]⟩,.slice none 0 0] 52 (0,0))):=Hi (by rw [← hW4];exact heap_alloc_new _ _)
     have HE4:=Hi hW4
     have HX4:Hid (Ext W0 W4):=Hi (HX3.out.trans X4.out)
     have HF4:Hid (FrG g w W4):=Hi (HF3.out.trans (FrG.ext X4.out))
     have HBR4:=Hi (X4.out.blockAt HBR3.out)
     have HRD4:=Hi (HRD2.out.later X4.out)
     have hs4:w3.heap.size+1≤W4.heap.size:=lt_size HBQ.out
     have hcq:W4.cell? ⟨w3.heap.size,1,none⟩=some (.int .i64 kd):=by rw [cell_of_row _ _ 1 _ _ _ HBQ.out];rfl
     have HW0:Hid (W0.heap.size≤g):=Hi HRD2.out.new
     clear hW4 HX3 HF3 HBR3 HRD2 X4
     by_cases hk1:kd=1
     · subst hk1
       have e1:¬ ((1:Int)<1∨(3:Int)<1):=by decide
       cases hv2:Bu.vr en l2 with
       | error er =>
        have HR:Hid (Bu.dNd en (f+1) r=.error er):=Hi (by rw [HR1.out];unfold Bu.dBd;rw [if_neg e1,hv2])
        have K:=HV2.out _ l2 W4 HRS2.out HRD4.out
        rw [hv2] at K
        have HK:=Hi K
        clear hv2 K e1
        go_wp2_with (rw [HE4.out])
        with_reducible refine HK.out.mono ?_
        rintro e w5 ⟨h1,h2,rfl⟩
        exact ⟨rfl,h1,HF4.out.trans h2,by rw [HR.out]⟩
       | ok p2 =>
        obtain ⟨x,l3⟩:=p2
        have hx:=Bu.vr_u64 hv2
        have HR:Hid (Bu.dNd en (f+1) r=.ok (.mk t 1 (Bu.unf x) ⟨#[]⟩ [],l3)):=Hi (by rw [HR1.out];unfold Bu.dBd;rw [if_neg e1,hv2];simp only [if_true])
        have K:=HV2.out _ l2 W4 HRS2.out HRD4.out
        rw [hv2] at K
        have HK:=Hi K
        have HUN:=Hi (unfold_any x hx)
        clear hv2 K e1
        go_wp2_with (rw [HE4.out])
        with_reducible refine HK.out.mono ?_
        rintro e w5 ⟨h1,h2,v,rfl,rfl,h4,h5⟩
        have HF5:=Hi (HF4.out.trans h2)
        have HBQ5:=Hi (h2.blk HBQ.out (show w3.heap.size≠g by omega))
        have HBR5:=Hi (h2.blk HBR4.out (show w.heap.size≠g by omega))
        have HL5:=Hi h4
        have HRD5:=Hi h5
        clear h1 h2 h4 h5 HK
        go_wp2_with fail
        with_reducible refine (HUN.out w5).mono ?_
        rintro e _ ⟨rfl,rfl⟩
        generalize Bu.unf x=ux at *
        have HC5:Hid (w5.cell? ⟨w3.heap.size,2,none⟩=some (.int .i64 0)):=Hi (by rw [cell_of_row _ _ 2 _ _ _ HBQ5.out];rfl)
        have hc5:=HC5.out
        have hf5:=frozen_row HBQ5.out 2
        obtain ⟨w6,hw6⟩:∃ W,w5.setCell ⟨w3.heap.size,2,none⟩ (.int .i64 ux)=W:=⟨_,rfl⟩
        have HBQ6:Hid (w6.heap[w3.heap.size]?=some (.cells #[.int .i64 (t:Int),.int .i64 1,.int .i64 ux,.string ⟨#[]⟩,.slice none 0 0] 52 (0,0))):=Hi (by rw [← hw6];exact heap_set HBQ5.out 2 _)
        have HBR6:Hid (w6.heap[w.heap.size]?=some (.cells #[.int .i64 0,.int .i64 0,.int .i64 0,.string ⟨#[]⟩,.slice none 0 0] 52 (0,0))):=Hi (by rw [← hw6,Below.heap_setCell _ _ _ _ (show w.heap.size≠w3.heap.size by omega)];exact HBR5.out)
        have HRD6:Hid (RdAt W0 w6 g A n c (n-l3.length) en):=Hi (by rw [← hw6];exact HRD5.out.setO (show w3.heap.size≠g by omega) (by have:=HW0.out;omega) _ _)
        have HF6:Hid (FrG g w w6):=Hi (by rw [← hw6];exact HF5.out.setN (by omega) _ _)
        have HE6:=Hi hw6
        clear hw6 HC5
        go_wp2_with (first
         | (rw [HE6.out])
         | refine wpList_load_row rfl _ _ rfl w3.heap.size rfl _ #[.int .i64 (t:Int),.int .i64 1,.int .i64 ux,.string ⟨#[]⟩,.slice none 0 0] _ _ HBQ6.out Tryz.underlying52 rfl (by kernel_rfl) ?_
         | refine wpList_store_row rfl _ _ _ rfl w.heap.size #[.int .i64 (t:Int),.int .i64 1,.int .i64 ux,.string ⟨#[]⟩,.slice none 0 0] rfl rfl _ #[.int .i64 0,.int .i64 0,.int .i64 0,.string ⟨#[]⟩,.slice none 0 0] HBR6.out (by kernel_rfl) rfl (by simp [Value.oneCell']) ?_)
        have HRS6:=setRow_at (cs':=#[.int .i64 (t:Int),.int .i64 1,.int .i64 ux,.string ⟨#[]⟩,.slice none 0 0]) HBR6.out
        refine bodyPost_ret (v:=.agg #[.int .i64 (t:Int),.int .i64 1,.int .i64 ux,.string ⟨#[]⟩,.slice none 0 0]) (results_cell_row Tryz.results107 _ _ w.heap.size _ _ _ _ rfl HRS6 Tryz.underlying52 rfl (by kernel_rfl)) rfl ?_
        refine ⟨(HRD6.out.rowO (show w.heap.size≠g by omega) (by have:=HW0.out;omega) _).ext,HF6.out.rowN (Nat.le_refl _) _,?_⟩
        rw [HR.out]
        exact ⟨_,rfl,⟨(none,0),by first | rfl | (rw [HNM.out];rfl),KidsP.nil _ _ _ _ _⟩,HL5.out,HRD6.out.rowO (show w.heap.size≠g by omega) (by have:=HW0.out;omega) _⟩
     · have t1:(kd == 1)=false:=by rw [beq_eq_false_iff_ne];exact hk1
       by_cases hk2:kd=2
       · subst hk2
         clear t1 hk1
         cases hc2:Bu.cnt en 2000 l2 with
         | error er =>
          have HR:Hid (Bu.dNd en (f+1) r=.error er):=Hi (by rw [HR1.out,Bu.dBd_2,hc2])
          have K:=HCN.out _ l2 2000 (by omega) W4 HRS2.out HRD4.out
          rw [hc2] at K
          have HK:Hid (Calls Tryz.prog 135 #[.pointer (some ⟨g,0,none⟩),.int .i64 2000] W4 _):=Hi K
          clear hc2 K
          go_wp2_with (rw [HE4.out])
          with_reducible refine HK.out.mono ?_
          rintro e w5 ⟨h1,h2,rfl⟩
          exact ⟨rfl,h1,HF4.out.trans h2,by rw [HR.out]⟩
         | ok p2 =>
          obtain ⟨m,l3⟩:=p2
          obtain ⟨hm,k3,hk3,hk3'⟩:=Bu.cnt_rest hc2
          have HRS3:=Hi (HRS2.out.of hk3 hk3')
          have HR2:Hid (Bu.dNd en (f+1) r=if l3.length<m then .error en else .ok (.mk t 2 0 (Bu.toB (l3.take m)) [],l3.drop m)):=Hi (by rw [HR1.out,Bu.dBd_2,hc2])
          have K:=HCN.out _ l2 2000 (by omega) W4 HRS2.out HRD4.out
          rw [hc2] at K
          have HK:Hid (Calls Tryz.prog 135 #[.pointer (some ⟨g,0,none⟩),.int .i64 2000] W4 _):=Hi K
          clear hc2 K hk3 hk3'
          go_wp2_with (rw [HE4.out])
          with_reducible refine HK.out.mono ?_
          rintro e w5 ⟨h1,h2,v,rfl,⟨-,rfl⟩,h4,h5⟩
          have HX5:=Hi h1
          have HF5':=Hi (HF4.out.trans h2)
          have HBQ5':=Hi (h2.blk HBQ.out (show w3.heap.size≠g by omega))
          have HBR5':=Hi (h2.blk HBR4.out (show w.heap.size≠g by omega))
          have K:=HTK.out _ l3 m (by omega) w5 HRS3.out h5
          clear h1 h2 h4 h5 HK
          by_cases hlt:l3.length<m
          · have HR:Hid (Bu.dNd en (f+1) r=.error en):=Hi (by rw [HR2.out,if_pos hlt])
            rw [if_pos hlt] at K
            have HK:=Hi K
            clear K hlt
            go_wp2_with fail
            with_reducible refine HK.out.mono ?_
            rintro e w6 ⟨h1,h2,rfl⟩
            exact ⟨rfl,h1,HF5'.out.trans h2,by rw [HR.out]⟩
          · have HR:Hid (Bu.dNd en (f+1) r=.ok (.mk t 2 0 (Bu.toB (l3.take m)) [],l3.drop m)):=Hi (by rw [HR2.out,if_neg hlt])
            rw [if_neg hlt] at K
            have HK:=Hi K
            have hml:(l3.take m).length=m:=by rw [List.length_take];omega
            have HML:=Hi hml
            clear K hlt hml
            go_wp2_with fail
            with_reducible refine HK.out.mono ?_
            rintro e w7 ⟨h1,h2,v,rfl,⟨A7,c7,rfl,hs7⟩,h4,h5⟩
            have HF5:=Hi (HF5'.out.trans h2)
            have HBQ5:=Hi (h2.blk HBQ5'.out (show w3.heap.size≠g by omega))
            have HBR5:=Hi (h2.blk HBR5'.out (show w.heap.size≠g by omega))
            have HL5:=Hi h4
            have HRD5:=Hi h5
            have hconv:=conv_any w7 A7 m c7 (l3.take m) HML.out hs7
            clear h1 h2 h4 h5 HK hs7
            generalize Bu.toB (l3.take m)=str at *
            have HC5:Hid (w7.cell? ⟨w3.heap.size,3,none⟩=some (.string ⟨#[]⟩)):=Hi (by rw [cell_of_row _ _ 3 _ _ _ HBQ5.out];rfl)
            have hc5:=HC5.out
            have hf5:=frozen_row HBQ5.out 3
            obtain ⟨w6,hw6⟩:∃ W,w7.setCell ⟨w3.heap.size,3,none⟩ (.string str)=W:=⟨_,rfl⟩
            have HBQ6:Hid (w6.heap[w3.heap.size]?=some (.cells #[.int .i64 (t:Int),.int .i64 2,.int .i64 0,.string str,.slice none 0 0] 52 (0,0))):=Hi (by rw [← hw6];exact heap_set HBQ5.out 3 _)
            have HBR6:Hid (w6.heap[w.heap.size]?=some (.cells #[.int .i64 0,.int .i64 0,.int .i64 0,.string ⟨#[]⟩,.slice none 0 0] 52 (0,0))):=Hi (by rw [← hw6,Below.heap_setCell _ _ _ _ (show w.heap.size≠w3.heap.size by omega)];exact HBR5.out)
            have HRD6:Hid (RdAt W0 w6 g A n c (n-(l3.drop m).length) en):=Hi (by rw [← hw6];exact HRD5.out.setO (show w3.heap.size≠g by omega) (by have:=HW0.out;omega) _ _)
            have HF6:Hid (FrG g w w6):=Hi (by rw [← hw6];exact HF5.out.setN (by omega) _ _)
            have HE6:=Hi hw6
            clear hw6 HC5
            go_wp2_with (first
             | (rw [HE6.out])
             | refine wpList_load_row rfl _ _ rfl w3.heap.size rfl _ #[.int .i64 (t:Int),.int .i64 2,.int .i64 0,.string str,.slice none 0 0] _ _ HBQ6.out Tryz.underlying52 rfl (by kernel_rfl) ?_
             | refine wpList_store_row rfl _ _ _ rfl w.heap.size #[.int .i64 (t:Int),.int .i64 2,.int .i64 0,.string str,.slice none 0 0] rfl rfl _ #[.int .i64 0,.int .i64 0,.int .i64 0,.string ⟨#[]⟩,.slice none 0 0] HBR6.out (by kernel_rfl) rfl (by simp [Value.oneCell']) ?_)
            have HRS6:=setRow_at (cs':=#[.int .i64 (t:Int),.int .i64 2,.int .i64 0,.string str,.slice none 0 0]) HBR6.out
            refine bodyPost_ret (v:=.agg #[.int .i64 (t:Int),.int .i64 2,.int .i64 0,.string str,.slice none 0 0]) (results_cell_row Tryz.results107 _ _ w.heap.size _ _ _ _ rfl HRS6 Tryz.underlying52 rfl (by kernel_rfl)) rfl ?_
            refine ⟨(HRD6.out.rowO (show w.heap.size≠g by omega) (by have:=HW0.out;omega) _).ext,HF6.out.rowN (Nat.le_refl _) _,?_⟩
            rw [HR.out]
            exact ⟨_,rfl,⟨(none,0),by first | rfl | (rw [HNM.out];rfl),KidsP.nil _ _ _ _ _⟩,HL5.out,HRD6.out.rowO (show w.heap.size≠g by omega) (by have:=HW0.out;omega) _⟩
       · have t2:(kd == 2)=false:=by rw [beq_eq_false_iff_ne];exact hk2
         by_cases hk3:kd=3
         · subst hk3
           clear t1 t2 hk1 hk2
           have hc3:True:=trivial
           cases hc2:Bu.cnt en 1024 l2 with
           | error er =>
            have HR:Hid (Bu.dNd en (f+1) r=.error er):=Hi (by rw [HR1.out,Bu.dBd_3,hc2])
            have K:=HCN.out _ l2 1024 (by omega) W4 HRS2.out HRD4.out
            rw [hc2] at K
            have HK:Hid (Calls Tryz.prog 135 #[.pointer (some ⟨g,0,none⟩),.int .i64 1024] W4 _):=Hi K
            clear hc2 K
            go_wp2_with (rw [HE4.out])
            with_reducible refine HK.out.mono ?_
            rintro e w5 ⟨h1,h2,rfl⟩
            exact ⟨rfl,h1,HF4.out.trans h2,by rw [HR.out]⟩
           | ok p2 =>
            obtain ⟨m,l3⟩:=p2
            obtain ⟨hm,hk3⟩:=Bu.cnt_rest hc2
            have HSX3:Hid (Bu.Sfx l3 l2):=Hi hk3
            have HR2:Hid (Bu.dNd en (f+1) r=match Bu.dKs (Bu.dNd en f) m l3 with
                | .error e=>.error e
                | .ok (xs,l4)=>.ok (.mk t 3 0 ⟨#[]⟩ xs,l4)):=Hi (by rw [HR1.out,Bu.dBd_3,hc2])
            have K:=HCN.out _ l2 1024 (by omega) W4 HRS2.out HRD4.out
            rw [hc2] at K
            have HK:Hid (Calls Tryz.prog 135 #[.pointer (some ⟨g,0,none⟩),.int .i64 1024] W4 _):=Hi K
            have ENN:=Hi (enters_of Tryz.func107 (by kernel_rfl) rfl)
            obtain ⟨i0,hi0,hz0,hz1,hz2⟩:=info_parts Tryz.infoNd5
            clear hc2 K hk3
            go_wp2_with (rw [HE4.out])
            with_reducible refine HK.out.mono ?_
            rintro e w5 ⟨h1,h2,v,rfl,⟨-,rfl⟩,h4,h5⟩
            have HJ0:Hid (w5.heap[w3.heap.size]?=some (.cells #[.int .i64 t,.int .i64 3,.int .i64 0,.string ⟨#[]⟩,.slice none 0 0] 52 (0,0))∧RowK 1024 f (w3.heap.size+1) w5 (.slice none 0 0) []∧l3.length≤n∧RdAt W0 w5 g A n c (n-l3.length) en∧FrG g w w5∧w5.heap[w.heap.size]?=some (.cells #[.int .i64 0,.int .i64 0,.int .i64 0,.string ⟨#[]⟩,.slice none 0 0] 52 (0,0))) :=
             Hi ⟨h2.blk HBQ.out (show w3.heap.size≠g by omega),RowK.nil _ _ _ _,h4,h5,HF4.out.trans h2,h2.blk HBR4.out (show w.heap.size≠g by omega)⟩
            clear h1 h2 h4 h5 HK HCN HTK HT HV2 HE4 HX4 HF4 HBR4 HRD4 HBQ hcq hc3 HR1
            go_wp2_with fail
            go_loopw [44] (fun qv wr=>∃ (j:Nat) (v:Value) (xs:List NdM) (lj:List Int),j≤m∧qv=.int .i64 (j:Int)∧Hid (xs.length=j)∧Hid (Bu.dKs (Bu.dNd en f) j l3=.ok (nds xs,lj))∧Hid (wr.heap[w3.heap.size]?=some (.cells #[.int .i64 t,.int .i64 3,.int .i64 0,.string ⟨#[]⟩,v] 52 (0,0))∧RowK 1024 f (w3.heap.size+1) wr v xs∧lj.length≤n∧RdAt W0 wr g A n c (n-lj.length) en∧FrG g w wr∧wr.heap[w.heap.size]?=some (.cells #[.int .i64 0,.int .i64 0,.int .i64 0,.string ⟨#[]⟩,.slice none 0 0] 52 (0,0)))) (fun qv _=>m-(intOf qv).toNat)
            case atStart=>exact ⟨0,.slice none 0 0,[],l3,Nat.zero_le _,rfl,Hi rfl,Hi rfl,HJ0⟩
            case round =>
             obtain ⟨j,v,xs,lj,hj,rfl,HXL,HKS,HJ⟩:=hrel
             have HRJ:Hid (Rst W0 A bs n (n-lj.length) lj):=Hi (by
              obtain ⟨k,hk,hk'⟩:=(Bu.dKs_rest (Bu.dNd_rest en f) j l3 _ lj HKS.out).trans HSX3.out
              exact HRS2.out.of hk hk')
             clear HJ0
             by_cases hlt:j<m
             · have hlti:(j:Int)<(m:Int):=by omega
               have hxl:xs.length≤1024:=by have:=HXL.out;omega
               cases hd':Bu.dNd en f lj with
               | error er =>
                have HD:=Hi hd'
                have HR:Hid (Bu.dNd en (f+1) r=.error er):=Hi (by
                 have h1:Bu.dKs (Bu.dNd en f) (j+1) l3=.error er:=by rw [Bu.dKs,HKS.out];simp only [hd']
                 have h2:=Bu.dKs_stuck h1 (m-(j+1))
                 rw [show j+1+(m-(j+1))=m by omega] at h2
                 rw [HR2.out,h2])
                clear hd'
                go_wp2_with fail
                refine region_tbD [] rfl (by kernel_rfl) (by decide +kernel) (rdE g w3.heap.size lv) ⟨rfl,rfl,rfl,rfl⟩ 14 rdD rdC (rdR W0 g A n c (n-lj.length) 0 en w w3.heap.size f t lv v xs false (.mk 0 0 0 ⟨#[]⟩ [])) W0 HJ.out.2.2.2.1.ext (fun i h1 h2=>by
                 have h1':10≤i:=h1
                 rcases (show i=10∨i=11∨i=12∨i=13 by omega) with rfl | rfl | rfl | rfl
                 · exact HJ.out.1
                 · exact HJ.out.2.1.ext ((Ext.refl _).drew)
                 · exact HJ.out.2.2.2.1.later ((Ext.refl _).drew)
                 · exact ⟨HJ.out.2.2.2.2.1,HJ.out.2.2.2.2.2⟩) ?_ ?_
                · intro T l' U wz i o hE ho hl hd hT
                  obtain ⟨t0,t1',t6,tz⟩:=hE
                  match i,ho,hl,hd with
                  | 0,ho,hl,hd =>
                   obtain rfl:=Option.some.inj ho
                   have v0:=eval_old (d:=[]) (hT.out 6 (by decide)) (by omega) t6
                   refine tb_pure (v:=.pointer (some ⟨w3.heap.size,4,none⟩)) hT ho hd rfl rfl (by decide) (by decide) ?_ rfl
                   generalize Act.eval ⟨over T U,[]⟩=ev at *
                   simp [execOp,go_sem,v0]
                  | 1,ho,hl,hd =>
                   obtain rfl:=Option.some.inj ho
                   have f_v0:U 46=some (.pointer (some ⟨w3.heap.size,4,none⟩)):=hT.facts 0 (by decide) (dep hd 0 (by kernel_rfl)) (fun c e=>by cases e)
                   have v0:Act.eval ⟨over T U,[]⟩ (.tmp 46)=_:=eval_new (t:=T) (d:=[]) f_v0 (by show 46<T.size;omega)
                   have l9:l' 9=false:=by
                    cases h9:l' 9 with
                    | false=>rfl
                    | true =>
                     have h7:=dep (hT.shut 9 _ rfl h9) 7 (by kernel_rfl)
                     have h1:=dep (hT.shut 7 _ rfl h7) 1 (by kernel_rfl)
                     rw [hl] at h1;cases h1
                   have hblk:wz.heap[w3.heap.size]?=some (.cells #[.int .i64 t,.int .i64 3,.int .i64 0,.string ⟨#[]⟩,v] 52 (0,0)):=hT.facts 10 (by decide) (hT.past 10 (Nat.le_refl 10)) (fun c e=>by injection e with e;subst e;exact l9)
                   have hc:wz.cell? ⟨w3.heap.size,4,none⟩=some v:=by rw [cell_of_row _ _ 4 _ _ _ hblk];rfl
                   refine tb_pure (v:=v) hT ho hd rfl rfl (by decide) (by decide) ?_ rfl
                   generalize Act.eval ⟨over T U,[]⟩=ev at *
                   simp [execOp,go_sem,v0,hc]
                  | 2,ho,hl,hd =>
                   obtain rfl:=Option.some.inj ho
                   have v0:=eval_old (d:=[]) (hT.out 0 (by decide)) (by omega) t0
                   refine tb_pure (v:=.pointer (some ⟨g,0,none⟩)) hT ho hd rfl rfl (by decide) (by decide) ?_ rfl
                   generalize Act.eval ⟨over T U,[]⟩=ev at *
                   simp [execOp,go_sem,v0]
                  | 3,ho,hl,hd =>
                   obtain rfl:=Option.some.inj ho
                   have v0:=eval_old (d:=[]) (hT.out 1 (by decide)) (by omega) t1'
                   refine tb_pure (v:=.int .i64 lv) hT ho hd rfl rfl (by decide) (by decide) ?_ rfl
                   generalize Act.eval ⟨over T U,[]⟩=ev at *
                   simp [execOp,go_sem,v0]
                  | 4,ho,hl,hd =>
                   obtain rfl:=Option.some.inj ho
                   have f_v0:U 49=some (.int .i64 lv):=hT.facts 3 (by decide) (dep hd 3 (by kernel_rfl)) (fun c e=>by cases e)
                   have v0:Act.eval ⟨over T U,[]⟩ (.tmp 49)=_:=eval_new (t:=T) (d:=[]) f_v0 (by show 49<T.size;omega)
                   have vc:Act.eval ⟨over T U,[]⟩ (.const (.int .i64 1))=.int .i64 1:=rfl
                   have hwr:IntKind.i64.wrap (lv+1)=lv+1:=IntWalk.i64_in _ (by omega)
                   refine tb_pure (v:=.int .i64 (lv+1)) hT ho hd rfl rfl (by decide) (by decide) ?_ rfl
                   generalize Act.eval ⟨over T U,[]⟩=ev at *
                   simp [execOp,go_sem,v0,vc,hwr]
                  | 5,ho,hl,hd =>
                   obtain rfl:=Option.some.inj ho
                   have f_v0:U 48=some (.pointer (some ⟨g,0,none⟩)):=hT.facts 2 (by decide) (dep hd 2 (by kernel_rfl)) (fun c e=>by cases e)
                   have v0:Act.eval ⟨over T U,[]⟩ (.tmp 48)=_:=eval_new (t:=T) (d:=[]) f_v0 (by show 48<T.size;omega)
                   have f_v1:U 50=some (.int .i64 (lv+1)):=hT.facts 4 (by decide) (dep hd 4 (by kernel_rfl)) (fun c e=>by cases e)
                   have v1:Act.eval ⟨over T U,[]⟩ (.tmp 50)=_:=eval_new (t:=T) (d:=[]) f_v1 (by show 50<T.size;omega)
                   have l7:l' 7=false:=by
                    cases h7:l' 7 with
                    | false=>rfl
                    | true =>
                     have h6:=dep (hT.shut 7 _ rfl h7) 6 (by kernel_rfl)
                     have h5:=dep (hT.shut 6 _ rfl h6) 5 (by kernel_rfl)
                     rw [hl] at h5;cases h5
                   have hrd:RdAt W0 wz g A n c (n-lj.length) en:=hT.facts 12 (by decide) (hT.past 12 (by decide)) (fun c e=>by injection e with e;subst e;exact hl)
                   have hrow:RowK 1024 f (w3.heap.size+1) wz v xs:=hT.facts 11 (by decide) (hT.past 11 (by decide)) (fun c e=>by injection e with e;subst e;exact l7)
                   have h13:FrG g w wz∧wz.heap[w.heap.size]?=some (.cells #[.int .i64 0,.int .i64 0,.int .i64 0,.string ⟨#[]⟩,.slice none 0 0] 52 (0,0)):=hT.facts 13 (by decide) (hT.past 13 (by decide)) (fun c e=>by cases e)
                   have K:=HIH.out _ lj wz HRJ.out hrd
                   rw [← HLV.out,HD.out] at K
                   refine tb_callP (f:=107) (args:=#[.pointer (some ⟨g,0,none⟩),.int .i64 (lv+1)]) hT ho hd rfl rfl (by decide) (by decide) (exec_call2 rfl rfl v0 v1 ENN.out) ?_
                   refine K.mono ?_
                   rintro e w' ⟨h1,h2,rfl⟩
                   refine Or.inl ⟨_,rfl,?_⟩
                   exact ⟨rfl,h1,h13.1.trans h2,by rw [HR.out]⟩
                  | 6,ho,hl,hd =>
                   obtain rfl:=Option.some.inj ho
                   have l9:l' 9=false:=by
                    cases h9:l' 9 with
                    | false=>rfl
                    | true =>
                     have h6:=dep (hT.shut 7 _ rfl (dep (hT.shut 9 _ rfl h9) 7 (by kernel_rfl))) 6 (by kernel_rfl)
                     rw [hl] at h6;cases h6
                   exact absurd (hT.facts 5 (by decide) (dep hd 5 (by kernel_rfl)) (fun c e=>by injection e with e;subst e;exact l9)).1 (by decide)
                  | 7,ho,hl,hd =>
                   obtain rfl:=Option.some.inj ho
                   exact absurd (hT.facts 6 (by decide) (dep hd 6 (by kernel_rfl)) (fun c e=>by injection e with e;subst e;exact hl)).1 (by decide)
                  | 8,ho,hl,hd =>
                   obtain rfl:=Option.some.inj ho
                   have v0:=eval_old (d:=[]) (hT.out 6 (by decide)) (by omega) t6
                   refine tb_pure (v:=.pointer (some ⟨w3.heap.size,4,none⟩)) hT ho hd rfl rfl (by decide) (by decide) ?_ rfl
                   generalize Act.eval ⟨over T U,[]⟩=ev at *
                   simp [execOp,go_sem,v0]
                  | 9,ho,hl,hd =>
                   obtain rfl:=Option.some.inj ho
                   exact absurd (hT.facts 7 (by decide) (dep hd 7 (by kernel_rfl)) (fun c e=>by injection e with e;subst e;exact hl)).1 (by decide)
                  | i+10,ho,_,_=>exact absurd ho (by simp)
                · intro U wx hex hout hfin
                  exact absurd (hfin 9 (by decide) rfl).1 (by decide)
               | ok px =>
                obtain ⟨x,lr⟩:=px
                have HD:=Hi hd'
                have HK1:Hid (Bu.dKs (Bu.dNd en f) (j+1) l3=.ok (nds xs ++ [x],lr)):=Hi (by rw [Bu.dKs,HKS.out];simp only [hd'])
                have HSL:Hid (lr.length≤n):=Hi (by
                 obtain ⟨k,hk,hk'⟩:=Bu.dNd_rest en f lj x lr hd'
                 have h3:=HJ.out.2.2.1
                 have:=congrArg List.length hk
                 rw [List.length_drop] at this
                 omega)
                clear hd'
                go_wp2_with fail
                refine region_tbD [] rfl (by kernel_rfl) (by decide +kernel) (rdE g w3.heap.size lv) ⟨rfl,rfl,rfl,rfl⟩ 14 rdD rdC (rdR W0 g A n c (n-lj.length) (n-lr.length) en w w3.heap.size f t lv v xs true x) W0 HJ.out.2.2.2.1.ext (fun i h1 h2=>by
                 have h1':10≤i:=h1
                 rcases (show i=10∨i=11∨i=12∨i=13 by omega) with rfl | rfl | rfl | rfl
                 · exact HJ.out.1
                 · exact HJ.out.2.1.ext ((Ext.refl _).drew)
                 · exact HJ.out.2.2.2.1.later ((Ext.refl _).drew)
                 · exact ⟨HJ.out.2.2.2.2.1,HJ.out.2.2.2.2.2⟩) ?_ ?_
                · intro T l' U wz i o hE ho hl hd hT
                  obtain ⟨t0,t1',t6,tz⟩:=hE
                  match i,ho,hl,hd with
                  | 0,ho,hl,hd =>
                   obtain rfl:=Option.some.inj ho
                   have v0:=eval_old (d:=[]) (hT.out 6 (by decide)) (by omega) t6
                   refine tb_pure (v:=.pointer (some ⟨w3.heap.size,4,none⟩)) hT ho hd rfl rfl (by decide) (by decide) ?_ rfl
                   generalize Act.eval ⟨over T U,[]⟩=ev at *
                   simp [execOp,go_sem,v0]
                  | 1,ho,hl,hd =>
                   obtain rfl:=Option.some.inj ho
                   have f_v0:U 46=some (.pointer (some ⟨w3.heap.size,4,none⟩)):=hT.facts 0 (by decide) (dep hd 0 (by kernel_rfl)) (fun c e=>by cases e)
                   have v0:Act.eval ⟨over T U,[]⟩ (.tmp 46)=_:=eval_new (t:=T) (d:=[]) f_v0 (by show 46<T.size;omega)
                   have l9:l' 9=false:=by
                    cases h9:l' 9 with
                    | false=>rfl
                    | true =>
                     have h7:=dep (hT.shut 9 _ rfl h9) 7 (by kernel_rfl)
                     have h1:=dep (hT.shut 7 _ rfl h7) 1 (by kernel_rfl)
                     rw [hl] at h1;cases h1
                   have hblk:wz.heap[w3.heap.size]?=some (.cells #[.int .i64 t,.int .i64 3,.int .i64 0,.string ⟨#[]⟩,v] 52 (0,0)):=hT.facts 10 (by decide) (hT.past 10 (Nat.le_refl 10)) (fun c e=>by injection e with e;subst e;exact l9)
                   have hc:wz.cell? ⟨w3.heap.size,4,none⟩=some v:=by rw [cell_of_row _ _ 4 _ _ _ hblk];rfl
                   refine tb_pure (v:=v) hT ho hd rfl rfl (by decide) (by decide) ?_ rfl
                   generalize Act.eval ⟨over T U,[]⟩=ev at *
                   simp [execOp,go_sem,v0,hc]
                  | 2,ho,hl,hd =>
                   obtain rfl:=Option.some.inj ho
                   have v0:=eval_old (d:=[]) (hT.out 0 (by decide)) (by omega) t0
                   refine tb_pure (v:=.pointer (some ⟨g,0,none⟩)) hT ho hd rfl rfl (by decide) (by decide) ?_ rfl
                   generalize Act.eval ⟨over T U,[]⟩=ev at *
                   simp [execOp,go_sem,v0]
                  | 3,ho,hl,hd =>
                   obtain rfl:=Option.some.inj ho
                   have v0:=eval_old (d:=[]) (hT.out 1 (by decide)) (by omega) t1'
                   refine tb_pure (v:=.int .i64 lv) hT ho hd rfl rfl (by decide) (by decide) ?_ rfl
                   generalize Act.eval ⟨over T U,[]⟩=ev at *
                   simp [execOp,go_sem,v0]
                  | 4,ho,hl,hd =>
                   obtain rfl:=Option.some.inj ho
                   have f_v0:U 49=some (.int .i64 lv):=hT.facts 3 (by decide) (dep hd 3 (by kernel_rfl)) (fun c e=>by cases e)
                   have v0:Act.eval ⟨over T U,[]⟩ (.tmp 49)=_:=eval_new (t:=T) (d:=[]) f_v0 (by show 49<T.size;omega)
                   have vc:Act.eval ⟨over T U,[]⟩ (.const (.int .i64 1))=.int .i64 1:=rfl
                   have hwr:IntKind.i64.wrap (lv+1)=lv+1:=IntWalk.i64_in _ (by omega)
                   refine tb_pure (v:=.int .i64 (lv+1)) hT ho hd rfl rfl (by decide) (by decide) ?_ rfl
                   generalize Act.eval ⟨over T U,[]⟩=ev at *
                   simp [execOp,go_sem,v0,vc,hwr]
                  | 5,ho,hl,hd =>
                   obtain rfl:=Option.some.inj ho
                   have f_v0:U 48=some (.pointer (some ⟨g,0,none⟩)):=hT.facts 2 (by decide) (dep hd 2 (by kernel_rfl)) (fun c e=>by cases e)
                   have v0:Act.eval ⟨over T U,[]⟩ (.tmp 48)=_:=eval_new (t:=T) (d:=[]) f_v0 (by show 48<T.size;omega)
                   have f_v1:U 50=some (.int .i64 (lv+1)):=hT.facts 4 (by decide) (dep hd 4 (by kernel_rfl)) (fun c e=>by cases e)
                   have v1:Act.eval ⟨over T U,[]⟩ (.tmp 50)=_:=eval_new (t:=T) (d:=[]) f_v1 (by show 50<T.size;omega)
                   have l7:l' 7=false:=by
                    cases h7:l' 7 with
                    | false=>rfl
                    | true =>
                     have h6:=dep (hT.shut 7 _ rfl h7) 6 (by kernel_rfl)
                     have h5:=dep (hT.shut 6 _ rfl h6) 5 (by kernel_rfl)
                     rw [hl] at h5;cases h5
                   have hrd:RdAt W0 wz g A n c (n-lj.length) en:=hT.facts 12 (by decide) (hT.past 12 (by decide)) (fun c e=>by injection e with e;subst e;exact hl)
                   have hrow:RowK 1024 f (w3.heap.size+1) wz v xs:=hT.facts 11 (by decide) (hT.past 11 (by decide)) (fun c e=>by injection e with e;subst e;exact l7)
                   have h13:FrG g w wz∧wz.heap[w.heap.size]?=some (.cells #[.int .i64 0,.int .i64 0,.int .i64 0,.string ⟨#[]⟩,.slice none 0 0] 52 (0,0)):=hT.facts 13 (by decide) (hT.past 13 (by decide)) (fun c e=>by cases e)
                   have K:=HIH.out _ lj wz HRJ.out hrd
                   rw [← HLV.out,HD.out] at K
                   refine tb_callP (f:=107) (args:=#[.pointer (some ⟨g,0,none⟩),.int .i64 (lv+1)]) hT ho hd rfl rfl (by decide) (by decide) (exec_call2 rfl rfl v0 v1 ENN.out) ?_
                   refine K.mono ?_
                   rintro e w' ⟨h1,h2,u',rfl,⟨M,rfl,hM⟩,h4,h5⟩
                   have hsz:w3.heap.size+1≤wz.heap.size:=lt_size (by
                    have l9:l' 9=false:=by
                     cases h9:l' 9 with
                     | false=>rfl
                     | true=>exact absurd (dep (hT.shut 7 _ rfl (dep (hT.shut 9 _ rfl h9) 7 (by kernel_rfl))) 6 (by kernel_rfl)) (by intro h6;have h5:=dep (hT.shut 6 _ rfl h6) 5 (by kernel_rfl);rw [hl] at h5;cases h5)
                    exact (hT.facts 10 (by decide) (hT.past 10 (Nat.le_refl 10)) (fun c e=>by injection e with e;subst e;exact l9):wz.heap[w3.heap.size]?=some (.cells #[.int .i64 t,.int .i64 3,.int .i64 0,.string ⟨#[]⟩,v] 52 (0,0))))
                   have hM2:KidsP 1024 (fun b=>w3.heap.size+1≤b∧some b≠v.ownBlock) f w' M x.kids:=hM.mono fun b hb=>⟨Nat.le_trans hsz hb,fun e=>by
                    have:=own_lt hrow.own b e.symm
                    omega⟩
                   refine Or.inr ⟨_,rfl,h1,⟨rfl,h5,M,rfl,hM2⟩,fun j hj hji hlj hcj hR=>?_⟩
                   match j,hj,hR with
                   | 0,_,hR=>exact hR
                   | 1,_,hR=>exact hR
                   | 2,_,hR=>exact hR
                   | 3,_,hR=>exact hR
                   | 4,_,hR=>exact hR
                   | 5,_,_=>exact absurd rfl hji
                   | 6,_,_=>exact absurd (dep (hT.shut 6 _ rfl hlj) 5 (by kernel_rfl)) (by rw [hl];decide)
                   | 7,_,_=>rw [l7] at hlj;cases hlj
                   | 8,_,hR=>exact hR
                   | 9,_,_=>exact absurd (dep (hT.shut 9 _ rfl hlj) 7 (by kernel_rfl)) (by rw [l7];decide)
                   | 10,_,hR=>exact h2.blk hR (show w3.heap.size≠g by omega)
                   | 11,_,hR=>exact RowK.fr hR (show g<w3.heap.size+1 by omega) h2
                   | 12,_,_=>exact absurd rfl (hcj 5 rfl).1
                   | 13,_,hR=>exact ⟨hR.1.trans h2,h2.blk hR.2 (show w.heap.size≠g by omega)⟩
                   | j+14,hj,_=>exact absurd hj (by omega)
                  | 6,ho,hl,hd =>
                   obtain rfl:=Option.some.inj ho
                   have l9:l' 9=false:=by
                    cases h9:l' 9 with
                    | false=>rfl
                    | true =>
                     have h6:=dep (hT.shut 7 _ rfl (dep (hT.shut 9 _ rfl h9) 7 (by kernel_rfl))) 6 (by kernel_rfl)
                     rw [hl] at h6;cases h6
                   obtain ⟨-,-,M,f0,hM⟩:=(hT.facts 5 (by decide) (dep hd 5 (by kernel_rfl)) (fun c e=>by injection e with e;subst e;exact l9):rdR W0 g A n c (n-lj.length) (n-lr.length) en w w3.heap.size f t lv v xs true x 5 (U 51) wz)
                   have v0:Act.eval ⟨over T U,[]⟩ (.tmp 51)=_:=eval_new (t:=T) (d:=[]) f0 (by show 51<T.size;omega)
                   refine tb_ext (v:=.slice (some ⟨wz.heap.size,0,none⟩) 1 1) (w':=wz.alloc (.cells (ncl (x,M)).toArray 52)) (rdR_ext W0 g A n c (n-lj.length) (n-lr.length) en w w3.heap.size f t lv v xs true x) hT ho hd rfl rfl (by decide) (by decide) ?_ ((Ext.refl _).alloc _) ⟨rfl,wz.heap.size,M,rfl,sl_oneN _ _ _,hM.ext ((Ext.refl _).alloc _)⟩
                   have v0':Act.eval ⟨over T U,[]⟩ (.tmp 51)=.agg #[.int .i64 x.tag,.int .i64 x.kind,.int .i64 x.n,.string x.s,.slice M.1 x.kids.length M.2]:=v0
                   generalize Act.eval ⟨over T U,[]⟩=ev at *
                   simp [execOp,v0',go_sem,ncl,ndc]
                  | 7,ho,hl,hd =>
                   obtain rfl:=Option.some.inj ho
                   have f_v1:U 47=some (v):=hT.facts 1 (by decide) (dep hd 1 (by kernel_rfl)) (fun c e=>by cases e)
                   have v1:Act.eval ⟨over T U,[]⟩ (.tmp 47)=_:=eval_new (t:=T) (d:=[]) f_v1 (by show 47<T.size;omega)
                   obtain ⟨-,p,M,f2,hs2,hM⟩:=(hT.facts 6 (by decide) (dep hd 6 (by kernel_rfl)) (fun c e=>by injection e with e;subst e;exact hl):rdR W0 g A n c (n-lj.length) (n-lr.length) en w w3.heap.size f t lv v xs true x 6 (U 52) wz)
                   have v2:Act.eval ⟨over T U,[]⟩ (.tmp 52)=_:=eval_new (t:=T) (d:=[]) f2 (by show 52<T.size;omega)
                   have hrow:RowK 1024 f (w3.heap.size+1) wz v xs:=hT.facts 11 (by decide) (hT.past 11 (by decide)) (fun c e=>by injection e with e;subst e;exact hl)
                   have l9:l' 9=false:=by
                    cases h9:l' 9 with
                    | false=>rfl
                    | true =>
                     have h7:=dep (hT.shut 9 _ rfl h9) 7 (by kernel_rfl)
                     rw [hl] at h7;cases h7
                   have hblk:wz.heap[w3.heap.size]?=some (.cells #[.int .i64 t,.int .i64 3,.int .i64 0,.string ⟨#[]⟩,v] 52 (0,0)):=hT.facts 10 (by decide) (hT.past 10 (Nat.le_refl 10)) (fun c e=>by injection e with e;subst e;exact l9)
                   have hsz:=lt_size hblk
                   obtain ⟨v',w',hrun,hown,hgr,hat⟩:=run_append_sl (P:=Tryz.prog) wz (w3.heap.size+1) 50 50 52 i0 (.agg #[.int .i64 0,.int .i64 0,.int .i64 0,.string ⟨#[]⟩,.slice none 0 0]) 5 64 Tryz.underlying50 hi0 hz0 hz1 hz2 rfl (by decide) v xs.length _ hrow.own (some ⟨p,0,none⟩) 1 ([((x,M):NdM)].map ncl) hs2 (ncl_len _) (ncl_ones _) (by show xs.length+1≤maxLen;unfold maxLen;omega) (by show (xs.length+1)*64≤_;omega) hsz
                   rw [← List.flatten_append,← List.map_append] at hown
                   have hpush:=hrow.push (x,M) hgr hat hown hM
                   refine tb_yield (v:=v') (w':=w') hT ho hd rfl rfl (by decide) (by decide) (exec_append rfl v1 v2 hrun) (hT.ext.grown hgr (fun q hq=>Nat.le_trans (by have:=HW0.out;omega) (own_ge hrow.own q hq))) ⟨rfl,v',M,rfl,hpush⟩ ?_
                   have hne:∀ b,b<w3.heap.size+1→some b≠v.ownBlock:=fun b hb e=>by
                    have:=own_ge hrow.own b e.symm
                    omega
                   intro j hj hji hlj hcj hR
                   match j,hj,hR with
                   | 0,_,hR=>exact hR
                   | 1,_,hR=>exact hR
                   | 2,_,hR=>exact hR
                   | 3,_,hR=>exact hR
                   | 4,_,hR=>exact hR
                   | 5,_,⟨h1,h2,M',h3,h4⟩=>exact ⟨h1,⟨(hgr.block _ h2.lt (hne _ (by omega))).trans h2.blk,h2.ext.grown hgr (fun q hq=>Nat.le_trans (by have:=HW0.out;omega) (own_ge hrow.own q hq)),h2.new⟩,M',h3,h4.keep hgr.size fun b hb hl=>hgr.block b hl hb.2⟩
                   | 6,_,_=>exact absurd rfl (hcj 7 rfl).1
                   | 7,_,_=>exact absurd rfl hji
                   | 8,_,hR=>exact hR
                   | 9,_,_=>rw [l9] at hlj;cases hlj
                   | 10,_,hR=>exact (hgr.block _ (by omega) (hne _ (by omega))).trans hR
                   | 11,_,_=>exact absurd rfl (hcj 7 rfl).1
                   | 12,_,_=>exact absurd (dep (hT.shut 6 _ rfl (dep hd 6 (by kernel_rfl))) 5 (by kernel_rfl)) (by rw [(hcj 5 rfl).2];decide)
                   | 13,_,hR=>exact ⟨⟨Nat.le_trans hR.1.1 hgr.size,fun k hk hn=>(hgr.block _ (Nat.lt_of_lt_of_le hk hR.1.1) (hne _ (by omega))).trans (hR.1.2 k hk hn)⟩,(hgr.block _ (lt_size hR.2) (hne _ (by omega))).trans hR.2⟩
                   | j+14,hj,_=>exact absurd hj (by omega)
                  | 8,ho,hl,hd =>
                   obtain rfl:=Option.some.inj ho
                   have v0:=eval_old (d:=[]) (hT.out 6 (by decide)) (by omega) t6
                   refine tb_pure (v:=.pointer (some ⟨w3.heap.size,4,none⟩)) hT ho hd rfl rfl (by decide) (by decide) ?_ rfl
                   generalize Act.eval ⟨over T U,[]⟩=ev at *
                   simp [execOp,go_sem,v0]
                  | 9,ho,hl,hd =>
                   obtain rfl:=Option.some.inj ho
                   obtain ⟨-,v',M,f1,hrow⟩:=(hT.facts 7 (by decide) (dep hd 7 (by kernel_rfl)) (fun c e=>by injection e with e;subst e;exact hl):rdR W0 g A n c (n-lj.length) (n-lr.length) en w w3.heap.size f t lv v xs true x 7 (U 53) wz)
                   have v1:Act.eval ⟨over T U,[]⟩ (.tmp 53)=_:=eval_new (t:=T) (d:=[]) f1 (by show 53<T.size;omega)
                   have f_v0:U 54=some (.pointer (some ⟨w3.heap.size,4,none⟩)):=hT.facts 8 (by decide) (dep hd 8 (by kernel_rfl)) (fun c e=>by cases e)
                   have v0:Act.eval ⟨over T U,[]⟩ (.tmp 54)=_:=eval_new (t:=T) (d:=[]) f_v0 (by show 54<T.size;omega)
                   obtain ⟨-,hrd,-,-,-⟩:=(hT.facts 5 (by decide) (dep (hT.shut 6 _ rfl (dep (hT.shut 7 _ rfl (dep hd 7 (by kernel_rfl))) 6 (by kernel_rfl))) 5 (by kernel_rfl)) (fun c e=>by injection e with e;subst e;exact hl):rdR W0 g A n c (n-lj.length) (n-lr.length) en w w3.heap.size f t lv v xs true x 5 (U 51) wz)
                   have hblk:wz.heap[w3.heap.size]?=some (.cells #[.int .i64 t,.int .i64 3,.int .i64 0,.string ⟨#[]⟩,v] 52 (0,0)):=hT.facts 10 (by decide) (hT.past 10 (Nat.le_refl 10)) (fun c e=>by injection e with e;subst e;exact hl)
                   have hc:wz.cell? ⟨w3.heap.size,4,none⟩=some v:=by rw [cell_of_row _ _ 4 _ _ _ hblk];rfl
                   have hfz:=frozen_row hblk 4
                   obtain ⟨A',c',rfl⟩:=own_form hrow.own
                   refine tb_store (w':=wz.setCell ⟨w3.heap.size,4,none⟩ (.slice A' (xs ++ [((x,M):NdM)]).length c')) hT ho hd rfl rfl ?_ (hT.ext.setCell (by show W0.heap.size≤w3.heap.size;have:=HW0.out;omega) _) ⟨rfl,hrd.setO (show w3.heap.size≠g by omega) (by have:=HW0.out;omega) _ _,_,M,heap_set hblk 4 _,hrow.set (Nat.lt_succ_self _) _ _⟩ (fun j hj hji hlj hcj hR=>?_)
                   · generalize Act.eval ⟨over T U,[]⟩=ev at *
                     simp [execOp,v0,v1,go_sem,hc,hfz]
                   · match j,hj,hR with
                     | 0,_,hR=>exact hR
                     | 1,_,hR=>exact hR
                     | 2,_,hR=>exact hR
                     | 3,_,hR=>exact hR
                     | 4,_,hR=>exact hR
                     | 5,_,_=>exact absurd rfl (hcj 9 rfl).1
                     | 6,_,_=>exact absurd (dep hd 7 (by kernel_rfl)) (by rw [(hcj 7 rfl).2];decide)
                     | 7,_,_=>exact absurd rfl (hcj 9 rfl).1
                     | 8,_,hR=>exact hR
                     | 9,_,_=>exact absurd rfl hji
                     | 10,_,_=>exact absurd rfl (hcj 9 rfl).1
                     | 11,_,_=>exact absurd (dep hd 7 (by kernel_rfl)) (by rw [(hcj 7 rfl).2];decide)
                     | 12,_,_=>exact absurd (dep (hT.shut 6 _ rfl (dep (hT.shut 7 _ rfl (dep hd 7 (by kernel_rfl))) 6 (by kernel_rfl))) 5 (by kernel_rfl)) (by rw [(hcj 5 rfl).2];decide)
                     | 13,_,hR=>exact ⟨hR.1.setN (by omega) _ _,by rw [Below.heap_setCell _ _ _ _ (show w.heap.size≠w3.heap.size by omega)];exact hR.2⟩
                     | j+14,hj,_=>exact absurd hj (by omega)
                  | i+10,ho,_,_=>exact absurd ho (by simp)
                · intro U wx hex hout hfin
                  obtain ⟨-,hrd,v',M,hb,hrow⟩:rdR W0 g A n c (n-lj.length) (n-lr.length) en w w3.heap.size f t lv v xs true x 9 (U 1000) wx:=hfin 9 (by decide) rfl
                  obtain ⟨h13,h14⟩:rdR W0 g A n c (n-lj.length) (n-lr.length) en w w3.heap.size f t lv v xs true x 13 (U 1004) wx:=hfin 13 (by decide) rfl
                  have HJ2:Hid (wx.heap[w3.heap.size]?=some (.cells #[.int .i64 t,.int .i64 3,.int .i64 0,.string ⟨#[]⟩,v'] 52 (0,0))∧RowK 1024 f (w3.heap.size+1) wx v' (xs ++ [(x,M)])∧lr.length≤n∧RdAt W0 wx g A n c (n-lr.length) en∧FrG g w wx∧wx.heap[w.heap.size]?=some (.cells #[.int .i64 0,.int .i64 0,.int .i64 0,.string ⟨#[]⟩,.slice none 0 0] 52 (0,0))):=Hi ⟨hb,hrow,HSL.out,hrd,h13,h14⟩
                  clear hb hrow hrd h13 h14 hfin hex
                  rw [over_list]
                  simp (disch:=decide) only [overL,Nat.reduceAdd,hout,Option.getD_none]
                  clear hout
                  go_wp2
                  go_roundw
                  case rel=>exact ⟨j+1,v',xs ++ [(x,M)],lr,by omega,by go_num,Hi (by rw [List.length_append,HXL.out];rfl),Hi (by rw [HK1.out];unfold nds;rw [List.map_append];rfl),HJ2⟩
                  case measure=>simp [intOf] <;> omega
             · obtain rfl:j=m:=by omega
               have HR:Hid (Bu.dNd en (f+1) r=.ok (.mk t 3 0 ⟨#[]⟩ (nds xs),lj)):=Hi (by rw [HR2.out,HKS.out])
               obtain ⟨hb5,hrow5,hL5,hrd5,hf5,hbr5⟩:=HJ.out
               obtain ⟨Av,cv,rfl⟩:=own_form hrow5.own
               have HKD:=Hi (RowK.done hrow5 rfl (by have:=HXL.out;omega))
               have HNL:Hid ((nds xs).length=xs.length):=Hi (List.length_map _)
               have HBQ6:=Hi hb5
               have HBR6:=Hi hbr5
               have HRD6:=Hi hrd5
               have HF6:=Hi hf5
               have HL5:=Hi hL5
               generalize xs.length=xl at *
               clear hb5 hrow5 hL5 hrd5 hf5 hbr5 HJ HR2
               go_wp2_with (first
                | refine wpList_load_row rfl _ _ rfl w3.heap.size rfl _ #[.int .i64 t,.int .i64 3,.int .i64 0,.string ⟨#[]⟩,.slice Av xl cv] _ _ HBQ6.out Tryz.underlying52 rfl (by kernel_rfl) ?_
                | refine wpList_store_row rfl _ _ _ rfl w.heap.size #[.int .i64 t,.int .i64 3,.int .i64 0,.string ⟨#[]⟩,.slice Av xl cv] rfl rfl _ #[.int .i64 0,.int .i64 0,.int .i64 0,.string ⟨#[]⟩,.slice none 0 0] HBR6.out (by kernel_rfl) rfl (by simp [Value.oneCell']) ?_)
               have HRS6:=setRow_at (cs':=#[.int .i64 t,.int .i64 3,.int .i64 0,.string ⟨#[]⟩,.slice Av xl cv]) HBR6.out
               refine bodyPost_ret (v:=.agg #[.int .i64 t,.int .i64 3,.int .i64 0,.string ⟨#[]⟩,.slice Av xl cv]) (results_cell_row Tryz.results107 _ _ w.heap.size _ _ _ _ rfl HRS6 Tryz.underlying52 rfl (by kernel_rfl)) rfl ?_
               refine ⟨(HRD6.out.rowO (show w.heap.size≠g by omega) (by have:=HW0.out;omega) _).ext,HF6.out.rowN (Nat.le_refl _) _,?_⟩
               rw [HR.out]
               refine ⟨_,rfl,⟨(Av,cv),?_,?_⟩,HL5.out,HRD6.out.rowO (show w.heap.size≠g by omega) (by have:=HW0.out;omega) _⟩
               · show Value.agg #[.int .i64 t,.int .i64 3,.int .i64 0,.string ⟨#[]⟩,.slice Av xl cv]=.agg #[.int .i64 t,.int .i64 3,.int .i64 0,.string ⟨#[]⟩,.slice Av (nds xs).length cv]
                 rw [HNL.out]
               · refine (HKD.out.keep (by simp [World.setRow]) fun b hb _=>setRow_other _ _ (show b≠w.heap.size by omega)).mono fun b hb=>?_
                 show w.heap.size≤b
                 omega
         · have t3:(kd == 3)=false:=by rw [beq_eq_false_iff_ne];exact hk3
           have HR:Hid (Bu.dNd en (f+1) r=.error 2):=Hi (by rw [HR1.out];unfold Bu.dBd;rw [if_pos (by omega)])
           go_wp2_with (rw [HE4.out])
           with_reducible refine (fail_any 2 _).mono ?_
           rintro e _ ⟨rfl,rfl⟩
           exact ⟨rfl,HX4.out,HF4.out,by rw [HR.out]⟩
end Go.Proofs.YtnlenappjjlbjaaGreatDoor
