/- The reference's root of digests: level, Root: contracts. Conditions: those of each theorem. -/
import Derived.Test.YtnlenappjjlbjaaGreatDoorQ31
import Derived.Test.YtnlenappjjlbjaaGreatDoorQ27
import Derived.Test.YtnlenappjjlbjaaGreatDoorQ18
import Derived.Test.YtnlenappjjlbjaaGreatDoorQ33
import Derived.Test.YtnlenappjjlbjaaGreatDoorQ15
import Derived.Test.YtnlenappjjlbjaaGreatDoorQ25
import Derived.Test.YtnlenappjjlbjaaGreatDoorQ17
namespace Go.Proofs.YtnlenappjjlbjaaGreatDoor
open Go.ChangeShapes Go.WideShapes Go.ChangeAt Go.RowKit Go.Shelf
def SlD (w:World) (A:Option Addr) (xs:List Int):Prop:=Sl w 1 A (xs.map fun x=>[.int .u64 x])
def RowD (base:Nat) (xs:List Int) (w:World) (v:Value):Prop:=w.ownsRow base 22 1 v xs.length (xs.map (Value.int .u64))
theorem SlD.at_ {w : World} {A : Option Addr} {xs : List Int} (h : SlD w A xs) {i : Nat} (hi : i < xs.length) :
    ∃ b off,A=some ⟨b,off,none⟩∧b<w.heap.size∧w.cell? ⟨b,off+i,none⟩=some (.int .u64 xs[i]):=by
 obtain ⟨b,off,hA,hb,hc⟩:=Sl.at_ (i:=i) (cs:=[.int .u64 xs[i]]) h (by simp [hi])
 refine ⟨b,off,hA,hb,?_⟩
 have:=hc 0 _ rfl
 simpa using this
theorem RowD.ext {base:Nat} {xs:List Int} {w w':World} {v:Value} (h:RowD base xs w v) (he:Ext w w'):RowD base xs w' v:=own_ext h he
theorem Tryz.infoU64d:(Tryz.prog.info? 22).map (fun i=>(i.zero,i.size,i.bytes))=some (some (.int .u64 0),1,8):=by kernel_rfl
theorem Bu.lvl_two {l:List Int} {k:Nat} (h:k+1<l.length):Bu.lvl (l.drop k)=Bu.dgJ (l[k]'(by omega)) l[k+1] :: Bu.lvl (l.drop (k+2)):=by
 rw [List.drop_eq_getElem_cons (show k<l.length by omega),List.drop_eq_getElem_cons h,Bu.lvl]
def lvR (base:Nat) (v:Value) (ys:List Int) (n c k b off:Nat) (x0 x1:Int) (j:Nat) (u:Option Value) (w:World):Prop :=
 match j with
 | 0=>u=some v
 | 1=>u=some (.slice (some ⟨b,off,none⟩) n c)
 | 2=>u=some (.int .i64 (k:Int))
 | 3=>u=some (.pointer (some ⟨b,off+k,none⟩))
 | 4=>u=some (.int .u64 x0)
 | 5=>u=some (.int .u64 (dgA Bu.fnv (Bu.beB 8 x0)))
 | 6=>u=some (.slice (some ⟨b,off,none⟩) n c)
 | 7=>u=some (.int .i64 (k:Int))
 | 8=>u=some (.int .i64 ((k:Int)+1))
 | 9=>u=some (.pointer (some ⟨b,off+(k+1),none⟩))
 | 10=>u=some (.int .u64 x1)
 | 11=>u=some (.int .u64 (Bu.dgJ x0 x1))
 | 12=>∃ p,u=some (.slice (some ⟨p,0,none⟩) 1 1)∧Sl w 1 (some ⟨p,0,none⟩) [[.int .u64 (Bu.dgJ x0 x1)]]
 | 13=>∃ v',u=some v'∧RowD base (ys ++ [Bu.dgJ x0 x1]) w v'
 | 14=>∃ v',u=some v'∧RowD base (ys ++ [Bu.dgJ x0 x1]) w v'
 | 15=>RowD base ys w v
 | _=>u=none
def lvC:Nat→Option Nat
 | 12=>some 13
 | 15=>some 13
 | 16=>some 14
 | _=>none
def lvD:List Nat:=[12,13,14,15,16,17,18,19,20,21,22,23,24,25,3,1000,3]
def lvE (A:Option Addr) (n c k:Nat) (v:Value) (t:Array Value):Prop:=t.getD 0 undef=.slice A n c∧t.getD 3 undef=v∧t.getD 4 undef=.int .i64 (k:Int)∧t.size=40
theorem lvR_ext (base:Nat) (v:Value) (ys:List Int) (n c k b off:Nat) (x0 x1:Int) (j:Nat) (u:Option Value) (w w':World) (he:Ext w w') (h:lvR base v ys n c k b off x0 x1 j u w):lvR base v ys n c k b off x0 x1 j u w' :=
 match j,h with
 | 0,h=>h
 | 1,h=>h
 | 2,h=>h
 | 3,h=>h
 | 4,h=>h
 | 5,h=>h
 | 6,h=>h
 | 7,h=>h
 | 8,h=>h
 | 9,h=>h
 | 10,h=>h
 | 11,h=>h
 | 12,⟨p,h1,h2⟩=>⟨p,h1,h2.ext he⟩
 | 13,⟨v',h1,h2⟩=>⟨v',h1,h2.ext he⟩
 | 14,⟨v',h1,h2⟩=>⟨v',h1,h2.ext he⟩
 | 15,h=>RowD.ext h he
 | _+16,h=>h
set_option maxRecDepth 100000 in
set_option maxHeartbeats 25600000 in
theorem level_any (A : Option Addr) (c : Nat) (xs : List Int) (n : Nat) (hxn : xs.length = n) (hn : n ≤ 1000) (hU : ∀ x ∈ xs, Bu.U64 x) (w : World) (h : SlD w A xs) :
    Calls Tryz.prog 76 #[.slice A n c] w fun e w'=>∃ v,e=.returned v∧RowD w.heap.size (Bu.lvl xs) w' v∧Ext w w':=by
 have HS:=Hi h
 have HU:=Hi hU
 have HXN:=Hi hxn
 have EN:=Hi (enters_of Tryz.func74 (by kernel_rfl) rfl)
 obtain ⟨i0,hi0,hz0,hz1,hz2⟩:=info_parts Tryz.infoU64d
 clear h hU hxn
 go_enter Tryz.func76,Tryz.ntmps76
 go_wp2
 go_loopw [3,4] (fun p i wr=>∃ (k:Nat) (ys:List Int) (v:Value),v=p∧k≤n∧k % 2=0∧i=.int .i64 (k:Int)∧Hid (Bu.lvl xs=ys ++ Bu.lvl (xs.drop k))∧Hid (ys.length≤k)∧Hid (RowD w.heap.size ys wr v)∧Hid (Ext w wr)) (fun _ i _=>n+2-(intOf i).toNat)
 case atStart=>exact ⟨0,[],.slice none 0 0,rfl,Nat.zero_le _,rfl,rfl,Hi rfl,Hi (Nat.zero_le _),Hi (own_nil _ _ _ _),Hi (Ext.refl _)⟩
 case round =>
  obtain ⟨k,ys,v,rfl,hk,hk2,rfl,HL,HY,HR,HE⟩:=hrel
  by_cases hlt:k+1<n
  · have hl1:k+1<xs.length:=by rw [HXN.out];exact hlt
    obtain ⟨b,off,rfl,hb,hc0⟩:=HS.out.at_ (i:=k) (by omega)
    obtain ⟨b',off',e',-,hc1⟩:=HS.out.at_ (i:=k+1) hl1
    obtain ⟨rfl,rfl⟩:b=b'∧off=off':=by cases e';exact ⟨rfl,rfl⟩
    have hx0:Bu.U64 (xs[k]'(by omega)):=HU.out _ (List.getElem_mem _)
    have hx1:Bu.U64 (xs[k+1]'hl1):=HU.out _ (List.getElem_mem _)
    have HL2:Hid (Bu.lvl xs=(ys ++ [Bu.dgJ (xs[k]'(by omega)) xs[k+1]]) ++ Bu.lvl (xs.drop (k+2))):=Hi (by rw [HL.out,Bu.lvl_two hl1,List.append_assoc];rfl)
    generalize xs[k]'(by omega)=x0 at *
    generalize xs[k+1]'hl1=x1 at *
    have ki1:(k:Int)+1<(n:Int):=by omega
    have hk0:(0:Int)≤(k:Int)∧(k:Int)<(n:Int):=by omega
    have hk1:(0:Int)≤(k:Int)+1∧(k:Int)+1<(n:Int):=by omega
    have hkk:((k:Int)+1).toNat=k+1:=by omega
    have hyl:ys.length≤1000:=by have:=HY.out;omega

    have hB0:w.heap.size≤w.heap.size:=Nat.le_refl _
    clear e' hl1
    go_wp2_with fail
    refine region_tb (by kernel_rfl) (by decide +kernel) (lvE (some ⟨b,off,none⟩) n c k v) ⟨rfl,rfl,rfl,rfl⟩ 17 lvD lvC (lvR w.heap.size v ys n c k b off x0 x1) w HE.out (fun i h1 h2=>by
     have h1':15≤i:=h1
     rcases (show i=15∨i=16 by omega) with rfl | rfl
     · exact RowD.ext HR.out (Ext.refl _).drew
     · rfl) ?_ ?_
    · intro T dd l' U wz i o hE ho hl hd hT
      obtain ⟨t0,t3,t4,tz⟩:=hE
      match i,ho,hl,hd with
      | 0,ho,hl,hd =>
       obtain rfl:=Option.some.inj ho
       have l14:l' 14=false:=by
        cases h14:l' 14 with
        | false=>rfl
        | true =>
         have h13:=dep (hT.shut 14 _ rfl h14) 13 (by kernel_rfl)
         have h0:=dep (hT.shut 13 _ rfl h13) 0 (by kernel_rfl)
         rw [hl] at h0;cases h0
       have f16:U 3=none:=hT.facts 16 (by decide) (hT.past 16 (by decide)) (fun c e=>by injection e with e;subst e;exact l14)
       have v0:=eval_old (d:=dd) f16 (by omega) t3
       refine tb_pure (v:=v) hT ho hd rfl rfl (by decide) (by decide) ?_ rfl
       generalize Act.eval ⟨over T U,dd⟩=ev at *
       simp [execOp,go_sem,v0]
      | 1,ho,hl,hd =>
       obtain rfl:=Option.some.inj ho
       have v0:=eval_old (d:=dd) (hT.out 0 (by decide)) (by omega) t0
       refine tb_pure (v:=.slice (some ⟨b,off,none⟩) n c) hT ho hd rfl rfl (by decide) (by decide) ?_ rfl
       generalize Act.eval ⟨over T U,dd⟩=ev at *
       simp [execOp,go_sem,v0]
      | 2,ho,hl,hd =>
       obtain rfl:=Option.some.inj ho
       have v0:=eval_old (d:=dd) (hT.out 4 (by decide)) (by omega) t4
       refine tb_pure (v:=.int .i64 (k:Int)) hT ho hd rfl rfl (by decide) (by decide) ?_ rfl
       generalize Act.eval ⟨over T U,dd⟩=ev at *
       simp [execOp,go_sem,v0]
      | 3,ho,hl,hd =>
       obtain rfl:=Option.some.inj ho
       have fv0:U 13=some (.slice (some ⟨b,off,none⟩) n c):=hT.facts 1 (by decide) (dep hd 1 (by kernel_rfl)) (fun c e=>by cases e)
       have v0:Act.eval ⟨over T U,dd⟩ (.tmp 13)=_:=eval_new (t:=T) (d:=dd) fv0 (by show 13<T.size;omega)
       have fv1:U 14=some (.int .i64 (k:Int)):=hT.facts 2 (by decide) (dep hd 2 (by kernel_rfl)) (fun c e=>by cases e)
       have v1:Act.eval ⟨over T U,dd⟩ (.tmp 14)=_:=eval_new (t:=T) (d:=dd) fv1 (by show 14<T.size;omega)
       refine tb_pure (v:=.pointer (some ⟨b,off+k,none⟩)) hT ho hd rfl rfl (by decide) (by decide) ?_ rfl
       generalize Act.eval ⟨over T U,dd⟩=ev at *
       simp [execOp,go_sem,v0,v1,hk0]
      | 4,ho,hl,hd =>
       obtain rfl:=Option.some.inj ho
       have fv0:U 15=some (.pointer (some ⟨b,off+k,none⟩)):=hT.facts 3 (by decide) (dep hd 3 (by kernel_rfl)) (fun c e=>by cases e)
       have v0:Act.eval ⟨over T U,dd⟩ (.tmp 15)=_:=eval_new (t:=T) (d:=dd) fv0 (by show 15<T.size;omega)
       have hc:=hT.ext.keep hc0
       refine tb_pure (v:=.int .u64 x0) hT ho hd rfl rfl (by decide) (by decide) ?_ rfl
       generalize Act.eval ⟨over T U,dd⟩=ev at *
       simp [execOp,go_sem,v0,hc]
      | 5,ho,hl,hd =>
       obtain rfl:=Option.some.inj ho
       have v0:Act.eval ⟨over T U,dd⟩ (.const (.int .u64 14695981039346656037))=.int .u64 Bu.fnv:=rfl
       have fv1:U 16=some (.int .u64 x0):=hT.facts 4 (by decide) (dep hd 4 (by kernel_rfl)) (fun c e=>by cases e)
       have v1:Act.eval ⟨over T U,dd⟩ (.tmp 16)=_:=eval_new (t:=T) (d:=dd) fv1 (by show 16<T.size;omega)
       refine tb_call (f:=74) (args:=#[.int .u64 Bu.fnv,.int .u64 x0]) (lvR_ext w.heap.size v ys n c k b off x0 x1) hT ho hd rfl rfl (by decide) (by decide) (exec_call2 rfl rfl v0 v1 EN.out) ?_
       refine (rnumberD_any Bu.fnv x0 hx0 wz).mono ?_
       rintro e w' ⟨rfl,rfl⟩
       exact ⟨_,rfl,Ext.refl _,rfl⟩
      | 6,ho,hl,hd =>
       obtain rfl:=Option.some.inj ho
       have v0:=eval_old (d:=dd) (hT.out 0 (by decide)) (by omega) t0
       refine tb_pure (v:=.slice (some ⟨b,off,none⟩) n c) hT ho hd rfl rfl (by decide) (by decide) ?_ rfl
       generalize Act.eval ⟨over T U,dd⟩=ev at *
       simp [execOp,go_sem,v0]
      | 7,ho,hl,hd =>
       obtain rfl:=Option.some.inj ho
       have v0:=eval_old (d:=dd) (hT.out 4 (by decide)) (by omega) t4
       refine tb_pure (v:=.int .i64 (k:Int)) hT ho hd rfl rfl (by decide) (by decide) ?_ rfl
       generalize Act.eval ⟨over T U,dd⟩=ev at *
       simp [execOp,go_sem,v0]
      | 8,ho,hl,hd =>
       obtain rfl:=Option.some.inj ho
       have fv0:U 19=some (.int .i64 (k:Int)):=hT.facts 7 (by decide) (dep hd 7 (by kernel_rfl)) (fun c e=>by cases e)
       have v0:Act.eval ⟨over T U,dd⟩ (.tmp 19)=_:=eval_new (t:=T) (d:=dd) fv0 (by show 19<T.size;omega)
       have vc:Act.eval ⟨over T U,dd⟩ (.const (.int .i64 1))=.int .i64 1:=rfl
       have hwr:IntKind.i64.wrap ((k:Int)+1)=(k:Int)+1:=IntWalk.i64_in _ (by omega)
       refine tb_pure (v:=.int .i64 ((k:Int)+1)) hT ho hd rfl rfl (by decide) (by decide) ?_ rfl
       generalize Act.eval ⟨over T U,dd⟩=ev at *
       simp [execOp,go_sem,v0,vc,hwr]
      | 9,ho,hl,hd =>
       obtain rfl:=Option.some.inj ho
       have fv0:U 18=some (.slice (some ⟨b,off,none⟩) n c):=hT.facts 6 (by decide) (dep hd 6 (by kernel_rfl)) (fun c e=>by cases e)
       have v0:Act.eval ⟨over T U,dd⟩ (.tmp 18)=_:=eval_new (t:=T) (d:=dd) fv0 (by show 18<T.size;omega)
       have fv1:U 20=some (.int .i64 ((k:Int)+1)):=hT.facts 8 (by decide) (dep hd 8 (by kernel_rfl)) (fun c e=>by cases e)
       have v1:Act.eval ⟨over T U,dd⟩ (.tmp 20)=_:=eval_new (t:=T) (d:=dd) fv1 (by show 20<T.size;omega)
       refine tb_pure (v:=.pointer (some ⟨b,off+(k+1),none⟩)) hT ho hd rfl rfl (by decide) (by decide) ?_ rfl
       generalize Act.eval ⟨over T U,dd⟩=ev at *
       simp [execOp,go_sem,v0,v1,hk1]
      | 10,ho,hl,hd =>
       obtain rfl:=Option.some.inj ho
       have fv0:U 21=some (.pointer (some ⟨b,off+(k+1),none⟩)):=hT.facts 9 (by decide) (dep hd 9 (by kernel_rfl)) (fun c e=>by cases e)
       have v0:Act.eval ⟨over T U,dd⟩ (.tmp 21)=_:=eval_new (t:=T) (d:=dd) fv0 (by show 21<T.size;omega)
       have hc:=hT.ext.keep hc1
       refine tb_pure (v:=.int .u64 x1) hT ho hd rfl rfl (by decide) (by decide) ?_ rfl
       generalize Act.eval ⟨over T U,dd⟩=ev at *
       simp [execOp,go_sem,v0,hc]
      | 11,ho,hl,hd =>
       obtain rfl:=Option.some.inj ho
       have fv0:U 17=some (.int .u64 (dgA Bu.fnv (Bu.beB 8 x0))):=hT.facts 5 (by decide) (dep hd 5 (by kernel_rfl)) (fun c e=>by cases e)
       have v0:Act.eval ⟨over T U,dd⟩ (.tmp 17)=_:=eval_new (t:=T) (d:=dd) fv0 (by show 17<T.size;omega)
       have fv1:U 22=some (.int .u64 x1):=hT.facts 10 (by decide) (dep hd 10 (by kernel_rfl)) (fun c e=>by cases e)
       have v1:Act.eval ⟨over T U,dd⟩ (.tmp 22)=_:=eval_new (t:=T) (d:=dd) fv1 (by show 22<T.size;omega)
       refine tb_call (f:=74) (args:=#[.int .u64 (dgA Bu.fnv (Bu.beB 8 x0)),.int .u64 x1]) (lvR_ext w.heap.size v ys n c k b off x0 x1) hT ho hd rfl rfl (by decide) (by decide) (exec_call2 rfl rfl v0 v1 EN.out) ?_
       refine (rnumberD_any (dgA Bu.fnv (Bu.beB 8 x0)) x1 hx1 wz).mono ?_
       rintro e w' ⟨rfl,rfl⟩
       exact ⟨_,rfl,Ext.refl _,rfl⟩
      | 12,ho,hl,hd =>
       obtain rfl:=Option.some.inj ho
       have fv0:U 23=some (.int .u64 (Bu.dgJ x0 x1)):=hT.facts 11 (by decide) (dep hd 11 (by kernel_rfl)) (fun c e=>by cases e)
       have v0:Act.eval ⟨over T U,dd⟩ (.tmp 23)=_:=eval_new (t:=T) (d:=dd) fv0 (by show 23<T.size;omega)
       refine tb_ext (v:=.slice (some ⟨wz.heap.size,0,none⟩) 1 1) (w':=wz.alloc (.cells #[.int .u64 (Bu.dgJ x0 x1)] 22)) (lvR_ext w.heap.size v ys n c k b off x0 x1) hT ho hd rfl rfl (by decide) (by decide) ?_ ((Ext.refl _).alloc _) ⟨wz.heap.size,rfl,Sl.new wz [.int .u64 (Bu.dgJ x0 x1)] 22⟩
       generalize Act.eval ⟨over T U,dd⟩=ev at *
       simp [execOp,v0,go_sem]
      | 13,ho,hl,hd =>
       obtain rfl:=Option.some.inj ho
       have fv0:U 12=some (v):=hT.facts 0 (by decide) (dep hd 0 (by kernel_rfl)) (fun c e=>by cases e)
       have v0:Act.eval ⟨over T U,dd⟩ (.tmp 12)=_:=eval_new (t:=T) (d:=dd) fv0 (by show 12<T.size;omega)
       obtain ⟨p,f12,hsl⟩:∃ p,U 24=some (.slice (some ⟨p,0,none⟩) 1 1)∧Sl wz 1 (some ⟨p,0,none⟩) [[.int .u64 (Bu.dgJ x0 x1)]]:=hT.facts 12 (by decide) (dep hd 12 (by kernel_rfl)) (fun c e=>by injection e with e;subst e;exact hl)
       have v1:Act.eval ⟨over T U,dd⟩ (.tmp 24)=_:=eval_new (t:=T) (d:=dd) f12 (by show 24<T.size;omega)
       have hown:RowD w.heap.size ys wz v:=hT.facts 15 (by decide) (hT.past 15 (by decide)) (fun c e=>by injection e with e;subst e;exact hl)
       obtain ⟨v',w',hrun,hown2,hgr,-⟩:=run_append_sl (P:=Tryz.prog) wz w.heap.size 40 40 22 i0 (.int .u64 0) 1 8 Tryz.underlying40 hi0 hz0 hz1 hz2 rfl (by decide) v _ _ hown (some ⟨p,0,none⟩) 1 [[.int .u64 (Bu.dgJ x0 x1)]] hsl (by simp) (by simp [Value.oneCell']) (by simp only [List.length_singleton];unfold maxLen;omega) (by simp only [List.length_singleton];omega) hT.ext.size
       have l14:l' 14=false:=by
        cases h14:l' 14 with
        | false=>rfl
        | true =>
         have h13:=dep (hT.shut 14 _ rfl h14) 13 (by kernel_rfl)
         rw [hl] at h13;cases h13
       have hR:RowD w.heap.size (ys ++ [Bu.dgJ x0 x1]) w' v':=by
        unfold RowD
        rw [List.length_append,List.map_append]
        exact hown2
       refine tb_yield (v:=v') (w':=w') hT ho hd rfl rfl (by decide) (by decide) (exec_append rfl v0 v1 hrun) (hT.ext.grown hgr (fun q hq=>Nat.le_trans hB0 (own_ge hown q hq))) ⟨v',rfl,hR⟩ ?_
       intro j hj hji hlj hcj hR
       match j,hj,hR with
       | 0,_,hR=>exact hR
       | 1,_,hR=>exact hR
       | 2,_,hR=>exact hR
       | 3,_,hR=>exact hR
       | 4,_,hR=>exact hR
       | 5,_,hR=>exact hR
       | 6,_,hR=>exact hR
       | 7,_,hR=>exact hR
       | 8,_,hR=>exact hR
       | 9,_,hR=>exact hR
       | 10,_,hR=>exact hR
       | 11,_,hR=>exact hR
       | 12,_,_=>exact absurd rfl (hcj 13 rfl).1
       | 13,_,_=>exact absurd rfl hji
       | 14,_,_=>rw [l14] at hlj;cases hlj
       | 15,_,_=>exact absurd rfl (hcj 13 rfl).1
       | 16,_,hR=>exact hR
       | j+17,hj,_=>exact absurd hj (by omega)
      | 14,ho,hl,hd =>
       obtain rfl:=Option.some.inj ho
       obtain ⟨v1,f13,hown⟩:∃ v',U 25=some v'∧RowD w.heap.size (ys ++ [Bu.dgJ x0 x1]) wz v':=hT.facts 13 (by decide) (dep hd 13 (by kernel_rfl)) (fun c e=>by cases e)
       have e1:Act.eval ⟨over T U,dd⟩ (.tmp 25)=_:=eval_new (t:=T) (d:=dd) f13 (by show 25<T.size;omega)
       refine tb_yieldX (v:=v1) (w':=wz) hT ho hd rfl rfl (by decide) (fun j hj hji=>?_) ?_ hT.ext ⟨v1,rfl,hown⟩ (fun _ _ _ _ _ h=>h)
       · match j,hj,hji with
         | 0,_,_=>exact Or.inr (by decide)
         | 1,_,_=>exact Or.inr (by decide)
         | 2,_,_=>exact Or.inr (by decide)
         | 3,_,_=>exact Or.inr (by decide)
         | 4,_,_=>exact Or.inr (by decide)
         | 5,_,_=>exact Or.inr (by decide)
         | 6,_,_=>exact Or.inr (by decide)
         | 7,_,_=>exact Or.inr (by decide)
         | 8,_,_=>exact Or.inr (by decide)
         | 9,_,_=>exact Or.inr (by decide)
         | 10,_,_=>exact Or.inr (by decide)
         | 11,_,_=>exact Or.inr (by decide)
         | 12,_,_=>exact Or.inr (by decide)
         | 13,_,_=>exact Or.inr (by decide)
         | 14,_,hji=>exact absurd rfl hji
         | 15,_,_=>exact Or.inr (by decide)
         | 16,_,_=>exact Or.inl rfl
         | j+17,hj,_=>exact absurd hj (by omega)
       · generalize Act.eval ⟨over T U,dd⟩=ev at *
         simp [execOp,e1,go_sem]
      | i+15,ho,_,_=>exact absurd ho (by simp)
    · intro U wx hex hout hfin
      obtain ⟨v1,hu3,hR1⟩:∃ v',U 3=some v'∧RowD w.heap.size (ys ++ [Bu.dgJ x0 x1]) wx v':=hfin 14 (by decide) rfl
      have HR1:=Hi hR1
      have HX1:=Hi hex
      rw [over_list]
      simp (disch:=decide) only [overL,Nat.reduceAdd,hout,hu3,Option.getD_none,Option.getD_some]
      clear hfin hout hu3 hR1 hex
      go_wp2
      go_roundw
      case rel=>exact ⟨k+2,ys ++ [Bu.dgJ x0 x1],v1,rfl,by omega,by omega,by go_num,HL2,Hi (by rw [List.length_append];have:=HY.out;simp only [List.length_singleton];omega),HR1,HX1⟩
      case measure=>simp [intOf] <;> omega
  · have hk3:¬ (k:Int)+1<(n:Int):=by omega
    obtain ⟨Av,cv,rfl⟩:=own_form HR.out
    have hyl:ys.length≤1000:=by have:=HY.out;omega
    by_cases hodd:n % 2=1
    · have hl1:k<xs.length:=by rw [HXN.out];omega
      obtain ⟨b,off,rfl,hb,hc0⟩:=HS.out.at_ (i:=k) hl1
      have hx0:=HE.out.keep hc0
      have HL2:Hid (Bu.lvl xs=ys ++ [xs[k]]):=Hi (by rw [HL.out,List.drop_eq_getElem_cons hl1,List.drop_eq_nil_of_le (by have:=HXN.out;omega)];rfl)
      generalize xs[k]'hl1=x0 at *
      have hm:(n:Int) % 2=1:=by omega
      have hnk:n=k+1:=by omega
      clear hc0 hl1 hlt
      subst hnk
      have HE0:=HE
      obtain ⟨W6,hW6⟩:∃ W,wr.alloc (.cells #[.int .u64 x0] 22)=W:=⟨_,rfl⟩
      have hx6:Ext wr W6:=by rw [← hW6];exact (Ext.refl _).alloc _
      have HSL:Hid (Sl W6 1 (some ⟨wr.heap.size,0,none⟩) [[.int .u64 x0]]):=Hi (by rw [← hW6];exact Sl.new wr [.int .u64 x0] 22)
      have HO6:=Hi (RowD.ext HR.out hx6)
      have X6:=Hi (HE.out.trans hx6)
      have HE6:=Hi hW6
      clear hW6 hx6
      go_wp2_with (first
       | (rw [HE6.out])
       | (at_builtin; refine wpList_append_k rfl _ _ 40 rfl w.heap.size 22 i0 (.int .u64 0) 1 8 Tryz.underlying40 hi0 hz0 hz1 hz2 rfl (by decide) (.slice Av ys.length cv) ys.length _ rfl HO6.out (some ⟨wr.heap.size, 0, none⟩) 1 1 [[.int .u64 x0]] rfl rfl HSL.out (by simp) (by simp [Value.oneCell']) (by unfold maxLen; omega) (by omega) X6.out.size ?_; intro A' c' w8 hown8 hgr8 _
          have HO8:=Hi hown8
          have X8:=Hi (X6.out.grown hgr8 (fun q hq=>own_ge HO6.out q hq))
          clear hown8 hgr8))
      go_ret
      refine ⟨_,rfl,?_,X8.out⟩
      rw [HL2.out]
      unfold RowD
      rw [List.length_append,List.map_append]
      exact HO8.out
    · have HL2:Hid (Bu.lvl xs=ys):=Hi (by rw [HL.out,List.drop_eq_nil_of_le (by have:=HXN.out;omega)];exact List.append_nil _)
      have hm:(n:Int) % 2=0:=by omega
      go_wp2
      go_ret
      exact ⟨_,rfl,by rw [HL2.out];exact HR.out,HE.out⟩
def lenD:Value→Nat
 | .slice _ n _=>n
 | _=>0
theorem RowD.sl {base:Nat} {xs:List Int} {w:World} {A:Option Addr} {n c:Nat} (h:RowD base xs w (.slice A n c)):SlD w A xs:=by
 have hf:(xs.map fun x=>[Value.int .u64 x]).flatten=xs.map (Value.int .u64):=by
  clear h
  induction xs with
  | nil=>rfl
  | cons a l ih=>rw [List.map_cons,List.flatten_cons,ih];rfl
 unfold RowD at h
 rw [← hf] at h
 obtain ⟨A',c',h1,-,-,h2⟩:=Sl.of_own (k:=1) (xs:=xs.map fun x=>[Value.int .u64 x]) (fun c hc=>by obtain ⟨x,_,rfl⟩:=List.mem_map.1 hc;rfl) (List.length_map _) h
 injection h1 with h1
 subst h1
 exact h2
set_option maxRecDepth 100000 in
set_option maxHeartbeats 25600000 in
theorem rroot_any (A : Option Addr) (c : Nat) (xs : List Int) (n : Nat) (hxn : xs.length = n) (hn : n ≤ 1000) (hU : ∀ x ∈ xs, Bu.U64 x) (w : World) (h : SlD w A xs) :
    Calls Tryz.prog 38 #[.slice A n c] w fun e w'=>e=.returned (.int .u64 (Bu.droot xs))∧Ext w w':=by
 have HS:=Hi h
 have HU:=Hi hU
 have HXN:=Hi hxn
 clear h hU hxn
 by_cases h0:n=0
 · subst h0
   have hx:xs=[]:=List.length_eq_zero_iff.1 HXN.out
   have HR:Hid (Bu.droot xs=dgOf []):=Hi (by rw [hx];rw [Bu.droot_small (by decide)];rfl)
   have HK:=Hi (show Calls Tryz.prog 75 #[.slice none 0 0] w _ from rof_dg none 0 [] w (SlU.nil _ _) (by decide))
   clear hx
   go_enter Tryz.func38,Tryz.ntmps38
   go_wp2_with fail
   with_reducible refine HK.out.mono ?_
   rintro e _ ⟨rfl,rfl⟩
   go_wp2
   go_ret
   exact ⟨by rw [HR.out];rfl,Ext.refl _⟩
 have h0i:((n:Int) == 0)=false:=by rw [beq_eq_false_iff_ne];omega
 go_enter Tryz.func38,Tryz.ntmps38
 go_wp2
 go_loopw [3] (fun p wr=>∃ (ys:List Int) (m:Nat) (B:Option Addr) (d:Nat),p=.slice B m d∧ys.length=m∧0<m∧m≤1000∧Hid (Bu.droot xs=Bu.droot ys)∧Hid (SlD wr B ys)∧Hid (∀ y∈ys,Bu.U64 y)∧Hid (Ext w wr)) (fun p _=>lenD p)
 case atStart=>exact ⟨xs,n,A,c,rfl,HXN.out,by omega,hn,Hi rfl,HS,HU,Hi (Ext.refl _)⟩
 case round =>
  obtain ⟨ys,m,B,d,rfl,hym,hm0,hm1,HR,HB,HV,HE⟩:=hrel
  by_cases hlt:1<m
  · have hlti:(1:Int)<(m:Int):=by omega
    have HK:=Hi (level_any B d ys m hym hm1 HV.out wr HB.out)
    have HYM:=Hi hym
    clear hym
    go_wp2_with fail
    with_reducible refine HK.out.mono ?_
    rintro e w2 ⟨v,rfl,hr,hx⟩
    obtain ⟨B2,d2,rfl⟩:=own_form hr
    have HB2:=Hi hr.sl
    have HE2:=Hi (HE.out.trans hx)
    have HR2:Hid (Bu.droot xs=Bu.droot (Bu.lvl ys)):=Hi (by rw [HR.out,Bu.droot_big (by rw [HYM.out];exact hlt)])
    have HV2:=Hi (Bu.lvl_range HV.out)
    have hl2:(Bu.lvl ys).length=(m+1) / 2:=by rw [Bu.lvl_len,HYM.out]
    clear hr hx HK
    go_wp2
    go_roundw
    case rel=>exact ⟨Bu.lvl ys,(Bu.lvl ys).length,B2,d2,by rw [hl2],rfl,by omega,by omega,HR2,HB2,HV2,HE2⟩
    case measure=>simp [lenD] <;> omega
  · obtain rfl:m=1:=by omega
    obtain ⟨b,off,rfl,hb,hc⟩:=HB.out.at_ (i:=0) (by omega)
    have HR2:Hid (Bu.droot xs=ys[0]'(by omega)):=Hi (by rw [HR.out,Bu.droot_small (by omega)];simp [hym])
    generalize ys[0]'(by omega)=y at *
    rw [Nat.add_zero] at hc
    clear hym
    go_wp2
    go_ret
    exact ⟨by rw [HR2.out];rfl,HE.out⟩
namespace Bu
theorem lvl_get:∀ (l:List Int) (i:Nat),(2*i+1<l.length→(lvl l)[i]?=some (dgJ (l.getD (2*i) 0) (l.getD (2*i+1) 0)))∧(2*i+1=l.length→(lvl l)[i]?=some (l.getD (2*i) 0))
 | [],i=>⟨fun h=>absurd h (by simp),fun h=>absurd h (by simp)⟩
 | [a],i=>⟨fun h=>absurd h (by simp),fun h=>by
     obtain rfl:i=0:=by
      have:2*i=0:=by simpa using h
      omega
     rfl⟩
 | a :: b :: l,0=>⟨fun _=>rfl,fun h=>by simp at h⟩
 | a :: b :: l,i+1=>by
  have h:=lvl_get l i
  simp only [List.length_cons,lvl,List.getElem?_cons_succ,show 2*(i+1)=2*i+1+1 by omega,List.getD_cons_succ]
  exact ⟨fun g=>h.1 (by omega),fun g=>h.2 (by omega)⟩
def mixd (ys:List Int) (i:Nat):List Int:=(lvl ys).take i ++ ys.drop i
theorem mixd_len {ys:List Int} {i:Nat} (h:i≤(ys.length+1) / 2):(mixd ys i).length=ys.length:=by
 unfold mixd
 rw [List.length_append,List.length_take,lvl_len,List.length_drop]
 omega
theorem mixd_get {ys:List Int} {i k:Nat} (h:i≤(ys.length+1) / 2) (hk:i≤k):(mixd ys i)[k]?=ys[k]?:=by
 unfold mixd
 have hl:((lvl ys).take i).length=i:=by rw [List.length_take,lvl_len];omega
 rw [List.getElem?_append_right (by omega),hl,List.getElem?_drop,show i+(k-i)=k by omega]
theorem mixd_set {ys:List Int} {i:Nat} {v:Int} (h:i<(ys.length+1) / 2) (hv:(lvl ys)[i]?=some v):(mixd ys i).set i v=mixd ys (i+1):=by
 unfold mixd
 have hl:((lvl ys).take i).length=i:=by rw [List.length_take,lvl_len];omega
 have hy:i<ys.length:=by omega
 rw [List.set_append_right _ _ (by omega),hl,Nat.sub_self,List.drop_eq_getElem_cons hy,List.set_cons_zero,List.take_add_one,hv]
 simp
end Bu
theorem flatD (xs:List Int):(xs.map fun x=>[Value.int .u64 x]).flatten=xs.map (Value.int .u64):=by
 induction xs with
 | nil=>rfl
 | cons a l ih=>rw [List.map_cons,List.flatten_cons,ih];rfl
def RowV (w:World) (g:Nat) (ys:List Int):Prop:=RowW w 1 g (ys.map fun x=>[.int .u64 x])
theorem RowV.ext {w w':World} {g:Nat} {ys:List Int} (h:RowV w g ys) (he:Ext w w'):RowV w' g ys:=RowW.ext h he
theorem RowV.cell {w:World} {g:Nat} {ys:List Int} (h:RowV w g ys) {i:Nat} {y:Int} (hp:ys[i]?=some y):w.cell? ⟨g,i,none⟩=some (.int .u64 y)∧w.frozen? ⟨g,i,none⟩=false:=by
 have h1:=h.rows i [.int .u64 y] (by simp [hp]) 0 _ rfl
 have h2:=h.part (i:=i) (by simpa using (List.getElem?_eq_some_iff.1 hp).1) 0 (by decide)
 rw [Nat.mul_one,Nat.add_zero] at h1 h2
 exact ⟨h1,h2.2⟩
theorem RowV.set {w:World} {g:Nat} {ys:List Int} (h:RowV w g ys) {i:Nat} (hi:i<ys.length) (v:Int):RowV (w.setCell ⟨g,i,none⟩ (.int .u64 v)) g (ys.set i v):=by
 have:=RowW.set h (i:=i) (by simpa using hi) (cs:=[.int .u64 v]) rfl
 rw [Nat.mul_one] at this
 have e:(ys.map fun x=>[Value.int .u64 x]).set i [.int .u64 v]=(ys.set i v).map fun x=>[Value.int .u64 x]:=by rw [List.map_set]
 rw [e] at this
 exact this
theorem RowV.take {w:World} {g:Nat} {ys:List Int} (h:RowV w g ys) (m:Nat):RowV w g (ys.take m) where
 len cs hc:=h.len cs (List.mem_of_mem_take (by rw [← List.map_take];exact hc))
 lt:=h.lt
 rows i cs hi:=h.rows i cs (by
  rw [List.map_take] at hi
  rcases Nat.lt_or_ge i m with g | g
  · rw [List.getElem?_take_of_lt g] at hi;exact hi
  · rw [List.getElem?_eq_none (by rw [List.length_take];omega)] at hi;cases hi)
 free j hj:=h.free j (by simp only [List.length_map,List.length_take] at hj ⊢;omega)
theorem RowV.of_own {w:World} {base n:Nat} {v:Value} {ys:List Int} (hn:ys.length=n) (h0:0<n) (h:w.ownsRow base 22 1 v n (ys.map (Value.int .u64))):∃ g cap,v=.slice (some ⟨g,0,none⟩) n cap∧base≤g∧n≤cap∧RowV w g ys:=by
 have hf:(ys.map fun x=>[Value.int .u64 x]).flatten=ys.map (Value.int .u64):=by
  clear h hn
  induction ys with
  | nil=>rfl
  | cons a l ih=>rw [List.map_cons,List.flatten_cons,ih];rfl
 rw [← hf] at h
 have hk:∀ c∈ys.map fun x=>[Value.int .u64 x],c.length=1:=fun c hc=>by obtain ⟨x,_,rfl⟩:=List.mem_map.1 hc;rfl
 obtain ⟨A,c,hA,-,-,hsl⟩:=Sl.of_own hk (by rw [List.length_map];exact hn) h
 rcases h.2 with ⟨rfl,h1⟩ | ⟨g,cap,cur,rfl,hg,hh,h1,h2,h3,h4⟩
 · omega
 · injection hA with hA
   subst hA
   refine ⟨g,cap,rfl,hg,by omega,hk,?_,fun i cs hi j u hu=>?_,fun j hj=>?_⟩
   · rcases Nat.lt_or_ge g w.heap.size with hlt | hge
     · exact hlt
     · rw [Array.getElem?_eq_none hge] at hh;cases hh
   · rcases hsl with hsl | ⟨b,off,hA,-,hc⟩
     · rw [hsl] at hi;cases hi
     · injection hA with hA
       injection hA with hA hB
       subst hA hB
       have:=hc i cs hi j u hu
       rw [Nat.zero_add] at this
       exact this
   · simp only [List.length_map,Nat.mul_one] at hj
     have hjj:(ys.map fun x=>[Value.int .u64 x])[j]?=some [.int .u64 ys[j]]:=by simp [hj]
     refine ⟨?_,?_⟩
     · rcases hsl with hsl | ⟨b,off,hA,-,hc⟩
       · rw [hsl] at hjj;cases hjj
       · injection hA with hA
         injection hA with hA hB
         subst hA hB
         have:=hc j _ hjj 0 _ rfl
         simp only [Nat.zero_add,Nat.mul_one,Nat.add_zero] at this ⊢
         rw [this];rfl
     · exact frozen_row hh (0+j)
def rtR (g m d i:Nat) (zs:List Int) (x0 x1:Int) (j:Nat) (u:Option Value) (w:World):Prop :=
 match j with
 | 0=>u=some (.slice (some ⟨g,0,none⟩) m d)
 | 1=>u=some (.int .i64 (i:Int))
 | 2=>u=some (.slice (some ⟨g,0,none⟩) m d)
 | 3=>u=some (.int .i64 (i:Int))
 | 4=>u=some (.int .i64 (2*(i:Int)))
 | 5=>u=some (.pointer (some ⟨g,2*i,none⟩))
 | 6=>u=some (.int .u64 x0)
 | 7=>u=some (.int .u64 (dgA Bu.fnv (Bu.beB 8 x0)))
 | 8=>u=some (.slice (some ⟨g,0,none⟩) m d)
 | 9=>u=some (.int .i64 (i:Int))
 | 10=>u=some (.int .i64 (2*(i:Int)))
 | 11=>u=some (.int .i64 (2*(i:Int)+1))
 | 12=>u=some (.pointer (some ⟨g,2*i+1,none⟩))
 | 13=>u=some (.int .u64 x1)
 | 14=>u=some (.int .u64 (Bu.dgJ x0 x1))
 | 15=>u=some (.pointer (some ⟨g,i,none⟩))
 | 16=>RowV w g (zs.set i (Bu.dgJ x0 x1))
 | _=>RowV w g zs
def rtC:Nat→Option Nat
 | 17=>some 16
 | _=>none
def rtD:List Nat:=[30,31,32,33,34,35,36,37,38,39,40,41,42,43,44,45,1000,1001]
def rtE (g m d i:Nat) (t:Array Value):Prop:=t.getD 3 undef=.slice (some ⟨g,0,none⟩) m d∧t.getD 5 undef=.int .i64 (i:Int)∧t.size=60
theorem rtR_ext (g m d i:Nat) (zs:List Int) (x0 x1:Int) (j:Nat) (u:Option Value) (w w':World) (he:Ext w w') (h:rtR g m d i zs x0 x1 j u w):rtR g m d i zs x0 x1 j u w' :=
 match j,h with
 | 0,h=>h
 | 1,h=>h
 | 2,h=>h
 | 3,h=>h
 | 4,h=>h
 | 5,h=>h
 | 6,h=>h
 | 7,h=>h
 | 8,h=>h
 | 9,h=>h
 | 10,h=>h
 | 11,h=>h
 | 12,h=>h
 | 13,h=>h
 | 14,h=>h
 | 15,h=>h
 | 16,h=>RowV.ext h he
 | _+17,h=>RowV.ext h he
set_option maxRecDepth 100000 in
set_option maxHeartbeats 25600000 in
theorem root_any (A : Option Addr) (c : Nat) (xs : List Int) (n : Nat) (hxn : xs.length = n) (hn : n ≤ 1000) (hU : ∀ x ∈ xs, Bu.U64 x) (w : World) (h : SlD w A xs) :
    Calls Tryz.prog 22 #[.slice A n c] w fun e w'=>e=.returned (.int .u64 (Bu.droot xs))∧Ext w w':=by
 have HS:=Hi h
 have HU:=Hi hU
 have HXN:=Hi hxn
 have HLN:Hid ((xs.map fun x=>[Value.int .u64 x]).length=n):=Hi (by rw [List.length_map];exact hxn)
 have H1:Hid (∀ c∈xs.map fun x=>[Value.int .u64 x],c.length=1):=Hi (fun c hc=>by obtain ⟨x,_,rfl⟩:=List.mem_map.1 hc;rfl)
 have H2:Hid (∀ c∈xs.map fun x=>[Value.int .u64 x],∀ u∈c,u.oneCell'=true):=Hi (fun c hc u hu=>by
  obtain ⟨x,_,rfl⟩:=List.mem_map.1 hc
  obtain rfl:u=.int .u64 x:=by simpa using hu
  rfl)
 have EN:=Hi (enters_of Tryz.func49 (by kernel_rfl) rfl)
 obtain ⟨i0,pi0,pz0,pz1,pz2⟩:=info_parts Tryz.infoU64d
 clear h hU hxn
 by_cases h0:n=0
 · subst h0
   have hx:xs=[]:=List.length_eq_zero_iff.1 HXN.out
   have HR:Hid (Bu.droot xs=dgOf []):=Hi (by rw [hx];rw [Bu.droot_small (by decide)];rfl)
   have HK:=Hi (show Calls Tryz.prog 48 #[.slice none 0 0] w _ from of_dg none 0 [] w (SlU.nil _ _) (by decide))
   clear hx
   go_enter Tryz.func22,Tryz.ntmps22
   go_wp2_with fail
   with_reducible refine HK.out.mono ?_
   rintro e _ ⟨rfl,rfl⟩
   go_wp2
   go_ret
   exact ⟨by rw [HR.out];rfl,Ext.refl _⟩
 have h0i:((n:Int) == 0)=false:=by rw [beq_eq_false_iff_ne];omega
 go_enter Tryz.func22,Tryz.ntmps22
 go_wp2_with (at_builtin;refine wpList_append_k rfl _ _ 40 rfl w.heap.size 22 i0 (.int .u64 0) 1 8 Tryz.underlying40 pi0 pz0 pz1 pz2 rfl (by decide) (.slice none 0 0) 0 [] rfl (own_nil _ _ _ _) A c n _ HLN.out rfl HS.out H1.out H2.out (by unfold maxLen;omega) (by omega) (Nat.le_refl _) ?_;intro A' c' w2 hown2 hgr2 _;rw [Nat.zero_add,List.nil_append] at hown2)
 have HX2:Hid (Ext w w2):=Hi ((Ext.refl w).grown hgr2 (fun k hk=>by cases hk))
 rw [flatD] at hown2
 obtain ⟨g0,d0,hA',hg0,hnd,hrow0⟩:=RowV.of_own HXN.out (by omega) hown2
 injection hA' with hA' _ hC'
 subst hA' hC'
 have HR0:=Hi hrow0
 clear hrow0 hown2 hgr2
 go_wp2_with fail
 go_loopw [3] (fun p wr=>∃ (g m d:Nat) (ys:List Int),p=.slice (some ⟨g,0,none⟩) m d∧0<m∧m≤1000∧m≤d∧w.heap.size≤g∧Hid (ys.length=m)∧Hid (Bu.droot xs=Bu.droot ys)∧Hid (RowV wr g ys)∧Hid (∀ y∈ys,Bu.U64 y)∧Hid (Ext w wr)) (fun p _=>lenD p)
 case atStart=>exact ⟨g0,n,_,xs,rfl,by omega,hn,hnd,hg0,HXN,Hi rfl,HR0,HU,HX2⟩
 case round =>
  obtain ⟨g,m,d,ys,rfl,hm0,hm1,hmd,hgw,HYM,HDR,HB,HV,HE⟩:=hrel
  clear HR0 HX2 hg0 hnd
  by_cases hlt:1<m
  · have hlti:(1:Int)<(m:Int):=by omega
    obtain ⟨q,hq⟩:∃ q,(m+1) / 2=q:=⟨_,rfl⟩
    have hqi:((m:Int)+1) / 2=(q:Int):=by omega
    have HQ:Hid (q=(ys.length+1) / 2):=Hi (by rw [HYM.out];exact hq.symm)
    go_wp2_with fail
    go_loopw [5] (fun p wi=>∃ (i:Nat),i≤q∧p=.int .i64 (i:Int)∧Hid (RowV wi g (Bu.mixd ys i))∧Hid (Ext w wi)) (fun p _=>q-(intOf p).toNat)
    case atStart=>exact ⟨0,Nat.zero_le _,rfl,Hi (by rw [show Bu.mixd ys 0=ys from rfl];exact HB.out),HE⟩
    case round =>
     clear HE HB
     obtain ⟨i,hi,rfl,HB,HE⟩:=hrel
     by_cases hiq:i<q
     · have hiqi:(i:Int)<(q:Int):=by omega
       have hi0:(0:Int)≤2*(i:Int)∧2*(i:Int)<(m:Int):=by omega
       have hi1:(2*(i:Int)).toNat=2*i:=by omega
       have hi4:(i:Int)<(m:Int):=by omega
       have hzi:i<(Bu.mixd ys i).length:=by rw [Bu.mixd_len (by rw [← HQ.out];exact hi),HYM.out];omega
       obtain ⟨x0,hx0e⟩:∃ x,ys[2*i]?=some x:=⟨ys[2*i]'(by rw [HYM.out];omega),List.getElem?_eq_getElem _⟩
       have hz0:(Bu.mixd ys i)[2*i]?=some x0:=by rw [Bu.mixd_get (by rw [← HQ.out];exact hi) (by omega)];exact hx0e
       have hx0:Bu.U64 x0:=HV.out _ (List.mem_of_getElem? hx0e)
       by_cases hb:2*i+1<m
       · have hbi:2*(i:Int)+1<(m:Int):=by omega
         have hi2:(0:Int)≤2*(i:Int)+1∧2*(i:Int)+1<(m:Int):=by omega
         have hi3:(2*(i:Int)+1).toNat=2*i+1:=by omega
         obtain ⟨x1,hx1e⟩:∃ x,ys[2*i+1]?=some x:=⟨ys[2*i+1]'(by rw [HYM.out];omega),List.getElem?_eq_getElem _⟩
         have hz1:(Bu.mixd ys i)[2*i+1]?=some x1:=by rw [Bu.mixd_get (by rw [← HQ.out];exact hi) (by omega)];exact hx1e
         have hx1:Bu.U64 x1:=HV.out _ (List.mem_of_getElem? hx1e)
         have HST:Hid ((Bu.mixd ys i).set i (Bu.dgJ x0 x1)=Bu.mixd ys (i+1)):=Hi (Bu.mixd_set (by rw [← HQ.out];exact hiq) (by
          have:=(Bu.lvl_get ys i).1 (by rw [HYM.out];exact hb)
          rw [this,List.getD_eq_getElem?_getD,List.getD_eq_getElem?_getD,hx0e,hx1e]
          rfl))
         clear hx0e hx1e
         obtain ⟨zs,hzs⟩:∃ z,Bu.mixd ys i=z:=⟨_,rfl⟩
         rw [hzs] at hz0 hz1 hzi HST HB
         clear hzs
         go_wp2_with fail
         refine region_tb (by kernel_rfl) (by decide +kernel) (rtE g m d i) ⟨rfl,rfl,rfl⟩ 18 rtD rtC (rtR g m d i zs x0 x1) w HE.out (fun i h1 h2=>by
          have h1':17≤i:=h1
          obtain rfl:i=17:=by omega
          exact RowV.ext HB.out (Ext.refl _).drew) ?_ ?_
         · intro T dd l' U wz i' o hE ho hl hd hT
           obtain ⟨t3,t5,tz⟩:=hE
           match i',ho,hl,hd with
           | 0,ho,hl,hd =>
            obtain rfl:=Option.some.inj ho
            have v0:=eval_old (d:=dd) (hT.out 3 (by decide)) (by omega) t3
            refine tb_pure (v:=.slice (some ⟨g,0,none⟩) m d) hT ho hd rfl rfl (by decide) (by decide) ?_ rfl
            generalize Act.eval ⟨over T U,dd⟩=ev at *
            simp [execOp,go_sem,v0]
           | 1,ho,hl,hd =>
            obtain rfl:=Option.some.inj ho
            have v0:=eval_old (d:=dd) (hT.out 5 (by decide)) (by omega) t5
            refine tb_pure (v:=.int .i64 (i:Int)) hT ho hd rfl rfl (by decide) (by decide) ?_ rfl
            generalize Act.eval ⟨over T U,dd⟩=ev at *
            simp [execOp,go_sem,v0]
           | 2,ho,hl,hd =>
            obtain rfl:=Option.some.inj ho
            have v0:=eval_old (d:=dd) (hT.out 3 (by decide)) (by omega) t3
            refine tb_pure (v:=.slice (some ⟨g,0,none⟩) m d) hT ho hd rfl rfl (by decide) (by decide) ?_ rfl
            generalize Act.eval ⟨over T U,dd⟩=ev at *
            simp [execOp,go_sem,v0]
           | 3,ho,hl,hd =>
            obtain rfl:=Option.some.inj ho
            have v0:=eval_old (d:=dd) (hT.out 5 (by decide)) (by omega) t5
            refine tb_pure (v:=.int .i64 (i:Int)) hT ho hd rfl rfl (by decide) (by decide) ?_ rfl
            generalize Act.eval ⟨over T U,dd⟩=ev at *
            simp [execOp,go_sem,v0]
           | 4,ho,hl,hd =>
            obtain rfl:=Option.some.inj ho
            have fv0:U 33=some (.int .i64 (i:Int)):=hT.facts 3 (by decide) (dep hd 3 (by kernel_rfl)) (fun c e=>by cases e)
            have v0:Act.eval ⟨over T U,dd⟩ (.tmp 33)=_:=eval_new (t:=T) (d:=dd) fv0 (by show 33<T.size;omega)
            have vc:Act.eval ⟨over T U,dd⟩ (.const (.int .i64 2))=.int .i64 2:=rfl
            have hwr:IntKind.i64.wrap (2*(i:Int))=2*(i:Int):=IntWalk.i64_in _ (by omega)
            refine tb_pure (v:=.int .i64 (2*(i:Int))) hT ho hd rfl rfl (by decide) (by decide) ?_ rfl
            generalize Act.eval ⟨over T U,dd⟩=ev at *
            simp [execOp,go_sem,v0,vc,hwr]
           | 5,ho,hl,hd =>
            obtain rfl:=Option.some.inj ho
            have fv0:U 32=some (.slice (some ⟨g,0,none⟩) m d):=hT.facts 2 (by decide) (dep hd 2 (by kernel_rfl)) (fun c e=>by cases e)
            have v0:Act.eval ⟨over T U,dd⟩ (.tmp 32)=_:=eval_new (t:=T) (d:=dd) fv0 (by show 32<T.size;omega)
            have fv1:U 34=some (.int .i64 (2*(i:Int))):=hT.facts 4 (by decide) (dep hd 4 (by kernel_rfl)) (fun c e=>by cases e)
            have v1:Act.eval ⟨over T U,dd⟩ (.tmp 34)=_:=eval_new (t:=T) (d:=dd) fv1 (by show 34<T.size;omega)
            refine tb_pure (v:=.pointer (some ⟨g,2*i,none⟩)) hT ho hd rfl rfl (by decide) (by decide) ?_ rfl
            generalize Act.eval ⟨over T U,dd⟩=ev at *
            simp [execOp,go_sem,v0,v1,hi0,hi1]
           | 6,ho,hl,hd =>
            obtain rfl:=Option.some.inj ho
            have l16:l' 16=false:=by
             cases h16:l' 16 with
             | false=>rfl
             | true =>
              have h14:=dep (hT.shut 16 _ rfl h16) 14 (by kernel_rfl)
              have h7:=dep (hT.shut 14 _ rfl h14) 7 (by kernel_rfl)
              have h6:=dep (hT.shut 7 _ rfl h7) 6 (by kernel_rfl)
              rw [hl] at h6;cases h6
            have hrow:RowV wz g zs:=hT.facts 17 (by decide) (hT.past 17 (by decide)) (fun c e=>by injection e with e;subst e;exact l16)
            have fv0:U 35=some (.pointer (some ⟨g,2*i,none⟩)):=hT.facts 5 (by decide) (dep hd 5 (by kernel_rfl)) (fun c e=>by cases e)
            have v0:Act.eval ⟨over T U,dd⟩ (.tmp 35)=_:=eval_new (t:=T) (d:=dd) fv0 (by show 35<T.size;omega)
            have hc:=(hrow.cell hz0).1
            refine tb_pure (v:=.int .u64 x0) hT ho hd rfl rfl (by decide) (by decide) ?_ rfl
            generalize Act.eval ⟨over T U,dd⟩=ev at *
            simp [execOp,go_sem,v0,hc]
           | 7,ho,hl,hd =>
            obtain rfl:=Option.some.inj ho
            have v0:Act.eval ⟨over T U,dd⟩ (.const (.int .u64 14695981039346656037))=.int .u64 Bu.fnv:=rfl
            have fv1:U 36=some (.int .u64 x0):=hT.facts 6 (by decide) (dep hd 6 (by kernel_rfl)) (fun c e=>by cases e)
            have v1:Act.eval ⟨over T U,dd⟩ (.tmp 36)=_:=eval_new (t:=T) (d:=dd) fv1 (by show 36<T.size;omega)
            refine tb_call (f:=49) (args:=#[.int .u64 Bu.fnv,.int .u64 x0]) (rtR_ext g m d i zs x0 x1) hT ho hd rfl rfl (by decide) (by decide) (exec_call2 rfl rfl v0 v1 EN.out) ?_
            refine (numberD_any Bu.fnv x0 hx0 wz).mono ?_
            rintro e w' ⟨rfl,rfl⟩
            exact ⟨_,rfl,Ext.refl _,rfl⟩
           | 8,ho,hl,hd =>
            obtain rfl:=Option.some.inj ho
            have v0:=eval_old (d:=dd) (hT.out 3 (by decide)) (by omega) t3
            refine tb_pure (v:=.slice (some ⟨g,0,none⟩) m d) hT ho hd rfl rfl (by decide) (by decide) ?_ rfl
            generalize Act.eval ⟨over T U,dd⟩=ev at *
            simp [execOp,go_sem,v0]
           | 9,ho,hl,hd =>
            obtain rfl:=Option.some.inj ho
            have v0:=eval_old (d:=dd) (hT.out 5 (by decide)) (by omega) t5
            refine tb_pure (v:=.int .i64 (i:Int)) hT ho hd rfl rfl (by decide) (by decide) ?_ rfl
            generalize Act.eval ⟨over T U,dd⟩=ev at *
            simp [execOp,go_sem,v0]
           | 10,ho,hl,hd =>
            obtain rfl:=Option.some.inj ho
            have fv0:U 39=some (.int .i64 (i:Int)):=hT.facts 9 (by decide) (dep hd 9 (by kernel_rfl)) (fun c e=>by cases e)
            have v0:Act.eval ⟨over T U,dd⟩ (.tmp 39)=_:=eval_new (t:=T) (d:=dd) fv0 (by show 39<T.size;omega)
            have vc:Act.eval ⟨over T U,dd⟩ (.const (.int .i64 2))=.int .i64 2:=rfl
            have hwr:IntKind.i64.wrap (2*(i:Int))=2*(i:Int):=IntWalk.i64_in _ (by omega)
            refine tb_pure (v:=.int .i64 (2*(i:Int))) hT ho hd rfl rfl (by decide) (by decide) ?_ rfl
            generalize Act.eval ⟨over T U,dd⟩=ev at *
            simp [execOp,go_sem,v0,vc,hwr]
           | 11,ho,hl,hd =>
            obtain rfl:=Option.some.inj ho
            have fv0:U 40=some (.int .i64 (2*(i:Int))):=hT.facts 10 (by decide) (dep hd 10 (by kernel_rfl)) (fun c e=>by cases e)
            have v0:Act.eval ⟨over T U,dd⟩ (.tmp 40)=_:=eval_new (t:=T) (d:=dd) fv0 (by show 40<T.size;omega)
            have vc:Act.eval ⟨over T U,dd⟩ (.const (.int .i64 1))=.int .i64 1:=rfl
            have hwr:IntKind.i64.wrap (2*(i:Int)+1)=2*(i:Int)+1:=IntWalk.i64_in _ (by omega)
            refine tb_pure (v:=.int .i64 (2*(i:Int)+1)) hT ho hd rfl rfl (by decide) (by decide) ?_ rfl
            generalize Act.eval ⟨over T U,dd⟩=ev at *
            simp [execOp,go_sem,v0,vc,hwr]
           | 12,ho,hl,hd =>
            obtain rfl:=Option.some.inj ho
            have fv0:U 38=some (.slice (some ⟨g,0,none⟩) m d):=hT.facts 8 (by decide) (dep hd 8 (by kernel_rfl)) (fun c e=>by cases e)
            have v0:Act.eval ⟨over T U,dd⟩ (.tmp 38)=_:=eval_new (t:=T) (d:=dd) fv0 (by show 38<T.size;omega)
            have fv1:U 41=some (.int .i64 (2*(i:Int)+1)):=hT.facts 11 (by decide) (dep hd 11 (by kernel_rfl)) (fun c e=>by cases e)
            have v1:Act.eval ⟨over T U,dd⟩ (.tmp 41)=_:=eval_new (t:=T) (d:=dd) fv1 (by show 41<T.size;omega)
            refine tb_pure (v:=.pointer (some ⟨g,2*i+1,none⟩)) hT ho hd rfl rfl (by decide) (by decide) ?_ rfl
            generalize Act.eval ⟨over T U,dd⟩=ev at *
            simp [execOp,go_sem,v0,v1,hi2,hi3]
           | 13,ho,hl,hd =>
            obtain rfl:=Option.some.inj ho
            have l16:l' 16=false:=by
             cases h16:l' 16 with
             | false=>rfl
             | true =>
              have h14:=dep (hT.shut 16 _ rfl h16) 14 (by kernel_rfl)
              have h13:=dep (hT.shut 14 _ rfl h14) 13 (by kernel_rfl)
              rw [hl] at h13;cases h13
            have hrow:RowV wz g zs:=hT.facts 17 (by decide) (hT.past 17 (by decide)) (fun c e=>by injection e with e;subst e;exact l16)
            have fv0:U 42=some (.pointer (some ⟨g,2*i+1,none⟩)):=hT.facts 12 (by decide) (dep hd 12 (by kernel_rfl)) (fun c e=>by cases e)
            have v0:Act.eval ⟨over T U,dd⟩ (.tmp 42)=_:=eval_new (t:=T) (d:=dd) fv0 (by show 42<T.size;omega)
            have hc:=(hrow.cell hz1).1
            refine tb_pure (v:=.int .u64 x1) hT ho hd rfl rfl (by decide) (by decide) ?_ rfl
            generalize Act.eval ⟨over T U,dd⟩=ev at *
            simp [execOp,go_sem,v0,hc]
           | 14,ho,hl,hd =>
            obtain rfl:=Option.some.inj ho
            have fv0:U 37=some (.int .u64 (dgA Bu.fnv (Bu.beB 8 x0))):=hT.facts 7 (by decide) (dep hd 7 (by kernel_rfl)) (fun c e=>by cases e)
            have v0:Act.eval ⟨over T U,dd⟩ (.tmp 37)=_:=eval_new (t:=T) (d:=dd) fv0 (by show 37<T.size;omega)
            have fv1:U 43=some (.int .u64 x1):=hT.facts 13 (by decide) (dep hd 13 (by kernel_rfl)) (fun c e=>by cases e)
            have v1:Act.eval ⟨over T U,dd⟩ (.tmp 43)=_:=eval_new (t:=T) (d:=dd) fv1 (by show 43<T.size;omega)
            refine tb_call (f:=49) (args:=#[.int .u64 (dgA Bu.fnv (Bu.beB 8 x0)),.int .u64 x1]) (rtR_ext g m d i zs x0 x1) hT ho hd rfl rfl (by decide) (by decide) (exec_call2 rfl rfl v0 v1 EN.out) ?_
            refine (numberD_any (dgA Bu.fnv (Bu.beB 8 x0)) x1 hx1 wz).mono ?_
            rintro e w' ⟨rfl,rfl⟩
            exact ⟨_,rfl,Ext.refl _,rfl⟩
           | 15,ho,hl,hd =>
            obtain rfl:=Option.some.inj ho
            have fv0:U 30=some (.slice (some ⟨g,0,none⟩) m d):=hT.facts 0 (by decide) (dep hd 0 (by kernel_rfl)) (fun c e=>by cases e)
            have v0:Act.eval ⟨over T U,dd⟩ (.tmp 30)=_:=eval_new (t:=T) (d:=dd) fv0 (by show 30<T.size;omega)
            have fv1:U 31=some (.int .i64 (i:Int)):=hT.facts 1 (by decide) (dep hd 1 (by kernel_rfl)) (fun c e=>by cases e)
            have v1:Act.eval ⟨over T U,dd⟩ (.tmp 31)=_:=eval_new (t:=T) (d:=dd) fv1 (by show 31<T.size;omega)
            refine tb_pure (v:=.pointer (some ⟨g,i,none⟩)) hT ho hd rfl rfl (by decide) (by decide) ?_ rfl
            generalize Act.eval ⟨over T U,dd⟩=ev at *
            simp [execOp,go_sem,v0,v1,hi4]
           | 16,ho,hl,hd =>
            obtain rfl:=Option.some.inj ho
            have hrow:RowV wz g zs:=hT.facts 17 (by decide) (hT.past 17 (by decide)) (fun c e=>by injection e with e;subst e;exact hl)
            have fv0:U 45=some (.pointer (some ⟨g,i,none⟩)):=hT.facts 15 (by decide) (dep hd 15 (by kernel_rfl)) (fun c e=>by cases e)
            have v0:Act.eval ⟨over T U,dd⟩ (.tmp 45)=_:=eval_new (t:=T) (d:=dd) fv0 (by show 45<T.size;omega)
            have fv1:U 44=some (.int .u64 (Bu.dgJ x0 x1)):=hT.facts 14 (by decide) (dep hd 14 (by kernel_rfl)) (fun c e=>by cases e)
            have v1:Act.eval ⟨over T U,dd⟩ (.tmp 44)=_:=eval_new (t:=T) (d:=dd) fv1 (by show 44<T.size;omega)
            obtain ⟨z,hz⟩:∃ z,zs[i]?=some z:=⟨zs[i]'hzi,List.getElem?_eq_getElem _⟩
            obtain ⟨hc,hfz⟩:=hrow.cell hz
            refine tb_store (w':=wz.setCell ⟨g,i,none⟩ (.int .u64 (Bu.dgJ x0 x1))) hT ho hd rfl rfl ?_ (hT.ext.setCell hgw _) (hrow.set hzi _) (fun j hj hji hlj hcj hR=>?_)
            · generalize Act.eval ⟨over T U,dd⟩=ev at *
              simp [execOp,v0,v1,go_sem,hc,hfz]
            · match j,hj,hR with
              | 0,_,hR=>exact hR
              | 1,_,hR=>exact hR
              | 2,_,hR=>exact hR
              | 3,_,hR=>exact hR
              | 4,_,hR=>exact hR
              | 5,_,hR=>exact hR
              | 6,_,hR=>exact hR
              | 7,_,hR=>exact hR
              | 8,_,hR=>exact hR
              | 9,_,hR=>exact hR
              | 10,_,hR=>exact hR
              | 11,_,hR=>exact hR
              | 12,_,hR=>exact hR
              | 13,_,hR=>exact hR
              | 14,_,hR=>exact hR
              | 15,_,hR=>exact hR
              | 16,_,_=>exact absurd rfl hji
              | 17,_,_=>exact absurd rfl (hcj 16 rfl).1
              | j+18,hj,_=>exact absurd hj (by omega)
           | i' + 17,ho,_,_=>exact absurd ho (by simp)
         · intro U wx hex hout hfin
           have HB2:Hid (RowV wx g (Bu.mixd ys (i+1))):=Hi (by rw [← HST.out];exact hfin 16 (by decide) rfl)
           have HX1:=Hi hex
           rw [over_list]
           simp (disch:=decide) only [overL,Nat.reduceAdd,hout,Option.getD_none]
           clear hfin hout hex
           go_wp2
           go_roundw
           case rel=>exact ⟨i+1,by omega,by go_num,HB2,HX1⟩
           case measure=>simp [intOf] <;> omega
       · have hbi:¬ 2*(i:Int)+1<(m:Int):=by omega
         have HST:Hid ((Bu.mixd ys i).set i x0=Bu.mixd ys (i+1)):=Hi (Bu.mixd_set (by rw [← HQ.out];exact hiq) (by
          have:=(Bu.lvl_get ys i).2 (by rw [HYM.out];omega)
          rw [this,List.getD_eq_getElem?_getD,hx0e]
          rfl))
         obtain ⟨z,hz⟩:∃ z,(Bu.mixd ys i)[i]?=some z:=⟨_,List.getElem?_eq_getElem hzi⟩
         obtain ⟨hc0,-⟩:=HB.out.cell hz0
         obtain ⟨hci,hfi⟩:=HB.out.cell hz
         have HB2:Hid (RowV (wr.setCell ⟨g,i,none⟩ (.int .u64 x0)) g (Bu.mixd ys (i+1))):=Hi (by rw [← HST.out];exact HB.out.set hzi _)
         have HX1:=Hi (HE.out.setCell (p:=⟨g,i,none⟩) hgw (.int .u64 x0))
         clear hx0e hz0 hz hzi
         go_wp2
         exact ⟨⟨i+1,by omega,by go_num,HB2,HX1⟩,by simp [intOf] <;> omega⟩
     · have hiqi:¬ (i:Int)<(q:Int):=by omega
       have hiq2:i=q:=by omega
       have hqd:(q:Int)≤(d:Int):=by omega
       have hll:(Bu.lvl ys).length=q:=by rw [Bu.lvl_len,HQ.out]
       have HB2:Hid (RowV wr g (Bu.lvl ys)):=Hi (by
        have:=HB.out.take q
        unfold Bu.mixd at this
        have e:(Bu.lvl ys).take q=Bu.lvl ys:=List.take_of_length_le (by omega)
        rw [hiq2,e,List.take_left' hll] at this
        exact this)
       have HDR2:Hid (Bu.droot xs=Bu.droot (Bu.lvl ys)):=Hi (by rw [HDR.out,Bu.droot_big (by rw [HYM.out];exact hlt)])
       have HV2:=Hi (Bu.lvl_range HV.out)
       have HYM2:=Hi hll
       clear hll
       go_wp2
       go_roundw
       case rel=>exact ⟨g,q,d,Bu.lvl ys,rfl,by omega,by omega,by omega,hgw,HYM2,HDR2,HB2,HV2,HE⟩
       case measure=>simp [lenD] <;> omega
  · obtain rfl:m=1:=by omega
    obtain ⟨y,hy⟩:∃ y,ys[0]?=some y:=⟨ys[0]'(by have:=HYM.out;omega),List.getElem?_eq_getElem _⟩
    have HR2:Hid (Bu.droot xs=y):=Hi (by rw [HDR.out,Bu.droot_small (by rw [HYM.out];omega),List.getD_eq_getElem?_getD,hy];rfl)
    have hc:=(HB.out.cell hy).1
    clear hy
    go_wp2
    go_ret
    exact ⟨by rw [HR2.out];rfl,HE.out⟩
theorem RowV.made (w:World) (n:Nat) (t:TypeId):RowV (w.alloc (.cells (madeCells #[.int .u64 0] n) t)) w.heap.size (List.replicate n 0):=by
 have:=RowW.made w 1 n [.int .u64 0] rfl t
 rw [Nat.mul_one] at this
 unfold RowV
 rw [List.map_replicate]
 exact this
def fill (ds:List Int) (k:Nat):List Int:=ds.take k ++ List.replicate (ds.length-k) 0
theorem fill_len {ds:List Int} {k:Nat} (h:k≤ds.length):(fill ds k).length=ds.length:=by
 unfold fill
 rw [List.length_append,List.length_take,List.length_replicate]
 omega
theorem fill_set {ds:List Int} {k:Nat} {d:Int} (hd:ds[k]?=some d):(fill ds k).set k d=fill ds (k+1):=by
 have h:=(List.getElem?_eq_some_iff.1 hd).1
 unfold fill
 have hl:(ds.take k).length=k:=by rw [List.length_take];omega
 rw [List.set_append_right _ _ (by omega),hl,Nat.sub_self,show ds.length-k=(ds.length-(k+1))+1 by omega,List.replicate_succ,List.set_cons_zero,List.take_add_one,hd]
 simp
set_option maxRecDepth 100000 in
set_option maxHeartbeats 25600000 in
theorem broot_any (A : Option Addr) (c : Nat) (xs : List Rt.ItL) {n : Nat} (hn : xs.length = n) (w : World) (h : Rt.SlIt w A xs) (hl : n ≤ 9223372036854775807) (hg : ∀ w', Ext w w' → Gm w') :
    Calls Tryz.prog 11 #[.slice A n c] w fun e w'=>e=.returned (.tuple #[.int .u64 (if Rs.chkI (Rt.its xs)=0 then Bu.rootV (Rt.its xs) else 0),.int .i64 (Rs.chkI (Rt.its xs))])∧Ext w w':=by
 obtain ⟨v,hv⟩:∃ v,Rs.chkI (Rt.its xs)=v:=⟨_,rfl⟩
 have HK:=Hi (bcheck_any A c xs hn hv w h hl (hg w (Ext.refl w)))
 rw [hv]
 by_cases h0:v=0
 · subst h0
   rw [if_pos rfl]
   have hn60:n≤60:=by have:=Rs.chkI_few hv;rw [Rt.its_len,hn] at this;exact this
   have HV:=Hi hv
   have HS:=Hi h
   have HN:=Hi hn
   have HG:=Hi hg
   clear hv h hn hg
   go_enter Tryz.func11,Tryz.ntmps11
   go_wp2_with fail
   with_reducible refine HK.out.mono ?_
   rintro e w1 ⟨rfl,hx1⟩
   have HDL:Hid (((Rt.its xs).map It.dg).length=n):=Hi (by rw [List.length_map,Rt.its_len,HN.out])
   have HX1:=Hi hx1
   clear HK hx1
   have hmk:=run_make_row' (P:=Tryz.prog) 40 22 (.int .u64 0) 8 Tryz.underlying40 Tryz.infoU64d rfl .i64 .i64 n (by omega) (by omega) w1
   obtain ⟨W2,hW2⟩:∃ W,w1.alloc (.cells (madeCells #[.int .u64 0] n) 22)=W:=⟨_,rfl⟩
   rw [hW2] at hmk
   have HR0:Hid (RowV W2 w1.heap.size (fill ((Rt.its xs).map It.dg) 0)):=Hi (by
    rw [← hW2]
    have:=RowV.made w1 n 22
    unfold fill
    rw [List.take_zero,List.nil_append,Nat.sub_zero,HDL.out]
    exact this)
   have HX0:Hid (Ext w W2):=Hi (by rw [← hW2];exact HX1.out.alloc _)
   have HSZ:Hid (w.heap.size≤w1.heap.size):=Hi HX1.out.size
   have HSA:=Hi (fun wr (hx:Ext w wr)=>HS.out.ext hx)
   clear HS hW2 HX1
   go_wp2_with fail
   go_loopw [20] (fun i wr=>∃ (k:Nat),k≤n∧i=.int .i64 (k:Int)∧Hid (RowV wr w1.heap.size (fill ((Rt.its xs).map It.dg) k))∧Hid (Ext w wr)) (fun i _=>n-(intOf i).toNat)
   case atStart=>exact ⟨0,Nat.zero_le _,rfl,HR0,HX0⟩
   case round =>
    clear HR0 HX0
    obtain ⟨k,hk,rfl,HR,HE⟩:=hrel
    by_cases hlt:k<n
    · obtain ⟨x,hx⟩:∃ x,xs[k]?=some x:=⟨xs[k]'(by rw [HN.out];exact hlt),List.getElem?_eq_getElem _⟩
      obtain ⟨b,off,rfl,hb,hc,hin⟩:=(HSA.out wr HE.out).at_ hx
      obtain ⟨CA,hca,hna,h1a,hka⟩:=rs_packed x.1 x.2
      have HC:Hid (wr.rangeAt b (off+k*17) CA.toList):=Hi (by rw [← hka];exact hc)
      have HI:=Hi hin
      have IA:=Hi (Rt.infoItem hna)
      have NA:=Hi hna
      have OA:=Hi h1a
      have ki0:(0:Int)≤(k:Int):=by omega
      have ki1:(k:Int)<(n:Int):=by omega
      have hvl:It.vld x.1=0:=Rs.chkI_vld HV.out (by unfold Rt.its;exact List.mem_map_of_mem (List.mem_of_getElem? hx))
      have HV2:=Hi (digest_any x.1 x.2)
      rw [if_pos hvl,hvl,hca] at HV2
      have hdk:((Rt.its xs).map It.dg)[k]?=some (It.dg x.1):=by rw [List.getElem?_map,Rt.its_at hx];rfl
      have HT:=Hi (fill_set hdk)
      have hkl:k<(fill ((Rt.its xs).map It.dg) k).length:=by rw [fill_len (by rw [HDL.out];omega),HDL.out];exact hlt
      obtain ⟨z,hz⟩:∃ z,(fill ((Rt.its xs).map It.dg) k)[k]?=some z:=⟨_,List.getElem?_eq_getElem hkl⟩
      generalize It.dg x.1=dx at *
      clear hx hc hin hca hka hna h1a hvl hdk
      go_wp2_with (first
       | (with_reducible refine wpList_load_arr rfl 45 (.tmp 23) rfl b (off+k*17) (by with_unfolding_all rfl) CA _ HC.out Tryz.underlying45 rfl IA.out ?_)
       | (with_reducible refine wpList_store_new rfl 45 (.tmp 7) (.tmp 24) rfl _ CA 45 (by with_unfolding_all rfl) (by with_unfolding_all rfl) IA.out (by with_unfolding_all exact NA.out.symm) OA.out ?_)
       | (with_reducible refine wpList_load_row rfl 45 (.tmp 7) rfl wr.heap.size (by with_unfolding_all rfl) _ CA _ _ (heap_alloc_last wr _) Tryz.underlying45 rfl IA.out ?_))
      have X0:Ext wr (wr.alloc (.cells CA 45)):=(Ext.refl _).alloc _
      have X1:=HE.out.trans X0
      with_reducible refine (HV2.out _ (HI.out.ext X0) (fun w' hw'=>HG.out w' (X1.trans hw'))).mono ?_
      rintro e w3 ⟨rfl,hb3⟩
      have HE3:=Hi (X1.trans hb3)
      have HR3:=Hi (HR.out.ext (X0.trans hb3))
      obtain ⟨hcz,hfz⟩:=HR3.out.cell hz
      have HR4:Hid (RowV (w3.setCell ⟨w1.heap.size,k,none⟩ (.int .u64 dx)) w1.heap.size (fill ((Rt.its xs).map It.dg) (k+1))):=Hi (by rw [← HT.out];exact HR3.out.set hkl _)
      have HE4:=Hi (HE3.out.setCell (p:=⟨w1.heap.size,k,none⟩) HSZ.out (.int .u64 dx))
      clear hb3 X0 X1 hz hkl
      go_wp2
      go_roundw
      case rel=>exact ⟨k+1,by omega,by go_num,HR4,HE4⟩
      case measure=>simp [intOf] <;> omega
    · have hkn:k=n:=by omega
      have ki1:¬ (k:Int)<(n:Int):=by omega
      have hsl:SlD wr (some ⟨w1.heap.size,0,none⟩) ((Rt.its xs).map It.dg):=by
       have:=RowW.sl HR.out
       unfold fill at this
       rw [List.take_of_length_le (by rw [HDL.out];omega),HDL.out,hkn,Nat.sub_self,List.replicate_zero,List.append_nil] at this
       exact this
      have HK:=Hi (root_any (some ⟨w1.heap.size,0,none⟩) n ((Rt.its xs).map It.dg) n HDL.out (by omega) (fun y hy=>by
       obtain ⟨it,-,rfl⟩:=List.mem_map.1 hy
       exact Bu.dg_range it) wr hsl)
      clear hsl hkn hlt
      go_wp2_with fail
      with_reducible refine HK.out.mono ?_
      rintro e w2 ⟨rfl,hx2⟩
      have X2:=Hi (HE.out.trans hx2)
      clear hx2 HK
      go_wp2
      go_ret2
      exact ⟨rfl,X2.out⟩
 · rw [if_neg h0]
   have hvb:(v == 0)=false:=by rw [beq_eq_false_iff_ne];exact h0
   clear hv h hg
   go_enter Tryz.func11,Tryz.ntmps11
   go_wp2_with fail
   with_reducible refine HK.out.mono ?_
   rintro e w1 ⟨rfl,hx1⟩
   go_wp2
   go_ret2
   exact ⟨rfl,hx1⟩
theorem own_zeroD {w:World} (base:Nat) (e:TypeId) (size:Nat) (h:base≤w.heap.size):(w.alloc (.cells #[] e)).ownsRow base e size (.slice (some ⟨w.heap.size,0,none⟩) 0 0) 0 [] :=
 ⟨by simp,Or.inr ⟨w.heap.size,0,#[],rfl,h,heap_alloc_new _ _,Nat.le_refl _,Nat.zero_le _,by simp,by simp⟩⟩
set_option maxRecDepth 100000 in
set_option maxHeartbeats 25600000 in
theorem rbroot_any (A : Option Addr) (c : Nat) (xs : List Rt.ItL) {n : Nat} (hn : xs.length = n) (w : World) (h : Rt.SlIt w A xs) (hl : n ≤ 9223372036854775807) :
    Calls Tryz.prog 12 #[.slice A n c] w fun e w'=>e=.returned (.tuple #[.int .u64 (if Rs.chkI (Rt.its xs)=0 then Bu.rootV (Rt.its xs) else 0),.int .i64 (Rs.chkI (Rt.its xs))])∧Ext w w':=by
 obtain ⟨v,hv⟩:∃ v,Rs.chkI (Rt.its xs)=v:=⟨_,rfl⟩
 have HK:=Hi (ritems_any A c xs hn hv w h hl)
 rw [hv]
 by_cases h0:v=0
 · subst h0
   rw [if_pos rfl]
   have hn60:n≤60:=by have:=Rs.chkI_few hv;rw [Rt.its_len,hn] at this;exact this
   have HV:=Hi hv
   have HS:=Hi h
   have HN:=Hi hn
   obtain ⟨i0,hi0,hz0,hz1,hz2⟩:=info_parts Tryz.infoU64d
   clear hv h hn
   go_enter Tryz.func12,Tryz.ntmps12
   go_wp2_with fail
   with_reducible refine HK.out.mono ?_
   rintro e w1 ⟨rfl,hx1⟩
   have HR0:Hid (RowD w.heap.size [] (w1.alloc (.cells #[] 22)) (.slice (some ⟨w1.heap.size,0,none⟩) 0 0)):=Hi (own_zeroD _ _ _ hx1.size)
   have HX0:=Hi (hx1.alloc (.cells #[] 22))
   clear HK hx1
   have HDL:Hid (((Rt.its xs).map It.dg).length=n):=Hi (by rw [List.length_map,Rt.its_len,HN.out])
   have HSA:=Hi (fun wr (hx:Ext w wr)=>HS.out.ext hx)
   clear HS
   go_wp2_with fail
   go_loopw [5,6] (fun p i wr=>∃ (k:Nat) (v:Value),v=p∧k≤n∧i=.int .i64 (k:Int)∧Hid (RowD w.heap.size (((Rt.its xs).map It.dg).take k) wr v)∧Hid (Ext w wr)) (fun _ i _=>n-(intOf i).toNat)
   case atStart=>exact ⟨0,_,rfl,Nat.zero_le _,rfl,HR0,HX0⟩
   case round =>
    clear HR0 HX0
    obtain ⟨k,v,rfl,hk,rfl,HR,HE⟩:=hrel
    have HRL:Hid ((((Rt.its xs).map It.dg).take k).length=k):=Hi (by rw [List.length_take,HDL.out];omega)
    have hof:=own_form HR.out
    rw [HRL.out] at hof
    obtain ⟨Av,cv,rfl⟩:=hof
    by_cases hlt:k<n
    · obtain ⟨x,hx⟩:∃ x,xs[k]?=some x:=⟨xs[k]'(by rw [HN.out];exact hlt),List.getElem?_eq_getElem _⟩
      obtain ⟨b,off,rfl,hb,hc,hin⟩:=(HSA.out wr HE.out).at_ hx
      obtain ⟨CA,hca,hna,h1a,hka⟩:=rs_packed x.1 x.2
      have HC:Hid (wr.rangeAt b (off+k*17) CA.toList):=Hi (by rw [← hka];exact hc)
      have HI:=Hi hin
      have IA:=Hi (Rt.infoItem hna)
      have ki0:(0:Int)≤(k:Int):=by omega
      have ki1:(k:Int)<(n:Int):=by omega
      have hvl:It.vld x.1=0:=Rs.chkI_vld HV.out (by unfold Rt.its;exact List.mem_map_of_mem (List.mem_of_getElem? hx))
      have HV2:=Hi (rdigest_any x.1 x.2)
      rw [if_pos hvl,hvl,hca] at HV2
      have HT:Hid (((Rt.its xs).map It.dg).take k ++ [It.dg x.1]=((Rt.its xs).map It.dg).take (k+1)):=Hi (by
       rw [List.take_add_one,List.getElem?_map,Rt.its_at hx];rfl)
      generalize It.dg x.1=dx at *
      clear hx hc hin hca hka hna h1a hvl
      go_wp2_with (with_reducible refine wpList_load_arr rfl 45 (.tmp 24) rfl b (off+k*17) (by with_unfolding_all rfl) CA _ HC.out Tryz.underlying45 rfl IA.out ?_)
      with_reducible refine (HV2.out _ HI.out).mono ?_
      rintro e w3 ⟨rfl,hb3⟩
      obtain ⟨W6,hW6⟩:∃ W,w3.alloc (.cells #[.int .u64 dx] 22)=W:=⟨_,rfl⟩
      have hx6:Ext w3 W6:=by rw [← hW6];exact (Ext.refl _).alloc _
      have HSL:Hid (Sl W6 1 (some ⟨w3.heap.size,0,none⟩) [[.int .u64 dx]]):=Hi (by rw [← hW6];exact Sl.new w3 [.int .u64 dx] 22)
      have HO6:Hid (W6.ownsRow w.heap.size 22 1 (.slice Av k cv) k ((((Rt.its xs).map It.dg).take k).map (Value.int .u64))):=Hi (by
       have:=RowD.ext HR.out (hb3.trans hx6)
       unfold RowD at this
       rw [HRL.out] at this
       exact this)
      have X6:=Hi ((HE.out.trans hb3).trans hx6)
      have HE6:=Hi hW6
      clear hb3 hW6 hx6
      go_wp2_with (first
       | (rw [HE6.out])
       | (at_builtin; refine wpList_append_k rfl _ _ 40 rfl w.heap.size 22 i0 (.int .u64 0) 1 8 Tryz.underlying40 hi0 hz0 hz1 hz2 rfl (by decide) (.slice Av k cv) k _ rfl HO6.out (some ⟨w3.heap.size, 0, none⟩) 1 1 [[.int .u64 dx]] rfl rfl HSL.out (by simp) (by simp [Value.oneCell']) (by unfold maxLen; omega) (by omega) X6.out.size ?_; intro A' c' w8 hown8 hgr8 _
          have HO8:=Hi hown8
          have X8:=Hi (X6.out.grown hgr8 (fun q hq=>own_ge HO6.out q hq))
          clear hown8 hgr8))
      refine ⟨⟨k+1,_,rfl,by omega,by go_num,Hi ?_,X8⟩,by simp [intOf] <;> omega⟩
      rw [← HT.out]
      unfold RowD
      rw [List.length_append,HRL.out,List.map_append]
      exact HO8.out
    · have hkn:k=n:=by omega
      have ki1:¬ (k:Int)<(n:Int):=by omega
      have HT:Hid (((Rt.its xs).map It.dg).take k=(Rt.its xs).map It.dg):=Hi (List.take_of_length_le (by have:=HDL.out;omega))
      have hsl:SlD wr Av ((Rt.its xs).map It.dg):=by
       have:=HR.out
       rw [HT.out] at this
       exact this.sl
      have HK:=Hi (rroot_any Av cv ((Rt.its xs).map It.dg) k (by rw [HDL.out,hkn]) (by omega) (fun y hy=>by
       obtain ⟨it,-,rfl⟩:=List.mem_map.1 hy
       exact Bu.dg_range it) wr hsl)
      clear hsl hkn hlt
      go_wp2_with fail
      with_reducible refine HK.out.mono ?_
      rintro e w2 ⟨rfl,hx2⟩
      have X2:=Hi (HE.out.trans hx2)
      clear hx2 HK
      go_wp2
      go_ret2
      exact ⟨rfl,X2.out⟩
 · rw [if_neg h0]
   have hvb:(v == 0)=false:=by rw [beq_eq_false_iff_ne];exact h0
   clear hv h
   go_enter Tryz.func12,Tryz.ntmps12
   go_wp2_with fail
   with_reducible refine HK.out.mono ?_
   rintro e w1 ⟨rfl,hx1⟩
   go_wp2
   go_ret2
   exact ⟨rfl,hx1⟩
theorem FrG.setC {g:Nat}:∀ (vs:List Value) (o:Nat) (w w0:World),FrG g w0 w→FrG g w0 (w.setCells g o vs)
 | [],_,_,_,h=>h
 | v :: r,o,w,w0,h=>by rw [World.setCells];exact FrG.setC r (o+1) _ _ (h.trans (FrG.set w o v))
def zN:List Value:=[.int .i64 0,.int .i64 0,.int .i64 0,.string ⟨#[]⟩,.slice none 0 0]
structure OutN (B d:Nat) (w:World) (g n:Nat) (ys:List NdM):Prop where
 row:RowW w 5 g (ys.map ncl ++ List.replicate (n-ys.length) zN)
 kids:∀ y∈ys,KidsP B (fun b=>g<b) d w y.2 y.1.kids
theorem OutN.ext {B d:Nat} {w w':World} {g n:Nat} {ys:List NdM} (h:OutN B d w g n ys) (he:Ext w w'):OutN B d w' g n ys:=⟨h.row.ext he,fun y hy=>(h.kids y hy).ext he⟩
theorem OutN.made (B d:Nat) (w:World) (n:Nat) (t:TypeId):OutN B d (w.alloc (.cells (madeCells #[.int .i64 0,.int .i64 0,.int .i64 0,.string ⟨#[]⟩,.slice none 0 0] (n*5)) t)) w.heap.size n [] :=
 ⟨by rw [List.map_nil,List.nil_append,List.length_nil,Nat.sub_zero];exact RowW.made w 5 n zN rfl t,fun y hy=>by simp at hy⟩
theorem OutN.there {B d:Nat} {w:World} {g n:Nat} {ys:List NdM} (h:OutN B d w g n ys) {k:Nat} (hk:ys.length=k) (hn:k<n):w.there g (k*5) 5:=RowW.part h.row (i:=k) (by rw [List.length_append,List.length_map,List.length_replicate];omega)
theorem OutN.put {B d:Nat} {w:World} {g n:Nat} {ys:List NdM} (h:OutN B d w g n ys) {k:Nat} (hk:ys.length=k) (hn:k<n) (y:NdM) (hy:KidsP B (fun b=>g<b) d w y.2 y.1.kids) {CS:List Value} (hc:ncl y=CS):OutN B d (w.setCells g (k*5) CS) g n (ys ++ [y]):=by
 subst hc hk
 constructor
 · have h1:=h.row.set (i:=ys.length) (by simp;omega) (cs:=ncl y) rfl
   have e:(ys.map ncl ++ List.replicate (n-ys.length) zN).set ys.length (ncl y)=(ys ++ [y]).map ncl ++ List.replicate (n-(ys ++ [y]).length) zN:=by
    have:=Rt.row_step (l:=ys.map ncl) (z:=zN) (v:=ncl y) (m:=n-(ys.length+1))
    rw [List.length_map] at this
    rw [show n-ys.length=n-(ys.length+1)+1 by omega,this]
    simp
   rw [e] at h1
   exact h1
 · intro z hz
   have key:∀ {L:Option Addr×Nat} {ks:List Nd},KidsP B (fun b=>g<b) d w L ks→KidsP B (fun b=>g<b) d (w.setCells g (ys.length*5) (ncl y)) L ks:=fun hk=>hk.fr (fun b hb=>by omega) (FrG.setC _ _ _ _ (FrG.refl g w))
   rcases List.mem_append.1 hz with hz | hz
   · exact key (h.kids z hz)
   · obtain rfl:z=y:=by simpa using hz
     exact key hy
theorem OutN.done {B d:Nat} {w:World} {g n:Nat} {ys:List NdM} (h:OutN B d w g n ys) (hn:ys.length=n) (hB:n≤B) (hm:n≤maxLen):KidsP B (fun b=>g≤b) (d+1) w (some ⟨g,0,none⟩,n) (nds ys):=by
 have hr:=h.row
 rw [hn,Nat.sub_self,List.replicate_zero,List.append_nil] at hr
 have hl:(nds ys).length=n:=by unfold nds;rw [List.length_map,hn]
 refine ⟨by omega,by rw [hl];exact Nat.le_refl n,hm,Or.inr ⟨g,0,ys.map (·.2),rfl,Nat.le_refl g,hr.lt,by rw [List.length_map,hl,hn],fun i x M hx hM=>?_⟩⟩
 unfold nds at hx
 rw [List.getElem?_map] at hx hM
 obtain ⟨y,hy,rfl⟩:=Option.map_eq_some_iff.1 hx
 rw [hy] at hM
 obtain rfl:y.2=M:=by simpa using hM
 refine ⟨fun j v hv=>?_,(h.kids y (List.mem_of_getElem? hy)).mono fun b hb=>Nat.le_of_lt hb⟩
 have:=hr.rows i (ncl y) (by rw [List.getElem?_map,hy];rfl) j v hv
 rw [Nat.zero_add]
 exact this
def BkI (w:World) (g:Nat):Prop:=∃ cs:Array Value,w.heap[g]?=some (.cells cs 45 (0,0))
theorem BkI.ext {w w':World} {q:Nat} (h:BkI w q) (he:Ext w w'):BkI w' q:=by obtain ⟨cs,h1⟩:=h;exact ⟨cs,he.blockAt h1⟩
theorem BkI.set {w:World} {q:Nat} (h:BkI w q) (i:Nat) (v:Value):BkI (w.setCell ⟨q,i,none⟩ v) q:=by
 obtain ⟨cs,h1⟩:=h
 exact ⟨cs.setIfInBounds i v,by simp [World.setCell,Array.getElem?_modify,h1]⟩
theorem BkI.setC {g:Nat}:∀ (vs:List Value) (o:Nat) (w:World),BkI w g→BkI (w.setCells g o vs) g
 | [],_,_,h=>h
 | v :: r,o,w,h=>by rw [World.setCells];exact BkI.setC r (o+1) _ (h.set o v)
theorem InX.setB {w:World} {it:It.Item} {L:It.Loc} (h:InX w it L) {q:Nat} (hq:BkI w q) (i:Nat) (v:Value):InX (w.setCell ⟨q,i,none⟩ v) it L:=by
 obtain ⟨cs,h1⟩:=hq
 have o:=h.ob.other h1 (by decide)
 have c:=h.cb.other h1 (by decide)
 have t:=h.tb.other h1 (by decide)
 have s:=h.sb.other h1 (by decide)
 exact ⟨Sl.setCell h.o o v,Sl.setCell h.c c v,Sl.setCell h.t t v,Sl.setCell h.s s v,h.oc,h.cc,h.tc,h.sc,h.ob.setCell o v,h.cb.setCell c v,h.tb.setCell t v,h.sb.setCell s v⟩
theorem InX.setC {g:Nat} {it:It.Item} {L:It.Loc}:∀ (vs:List Value) (o:Nat) (w:World),BkI w g→InX w it L→InX (w.setCells g o vs) it L
 | [],_,_,_,h=>h
 | v :: r,o,w,hb,h=>by rw [World.setCells];exact InX.setC r (o+1) _ (hb.set o v) (h.setB hb o v)
def zI:List Value:=[.int .i64 0,.int .i64 0,.int .i64 0,.string ⟨#[]⟩,.slice none 0 0,.slice none 0 0,.int .i64 0,.int .i64 0,.slice none 0 0,.int .i64 0,.string ⟨#[]⟩,.int .i64 0,.int .i64 0,.int .i64 0,.int .i64 0,.slice none 0 0,.int .i64 0]
structure OutX (w:World) (g n:Nat) (ys:List Rt.ItL):Prop where
 row:RowW w 17 g (ys.map Rt.cl ++ List.replicate (n-ys.length) zI)
 ins:∀ y∈ys,InX w y.1 y.2∧It.Ok y.1
 blk:BkI w g
theorem OutX.ext {w w':World} {g n:Nat} {ys:List Rt.ItL} (h:OutX w g n ys) (he:Ext w w'):OutX w' g n ys:=⟨h.row.ext he,fun y hy=>⟨(h.ins y hy).1.ext he,(h.ins y hy).2⟩,h.blk.ext he⟩
theorem OutX.made (w:World) (n:Nat):OutX (w.alloc (.cells (madeCells ([.int .i64 0,.int .i64 0,.int .i64 0,.string ⟨#[]⟩,.slice none 0 0,.slice none 0 0,.int .i64 0,.int .i64 0,.slice none 0 0,.int .i64 0,.string ⟨#[]⟩,.int .i64 0,.int .i64 0,.int .i64 0,.int .i64 0,.slice none 0 0,.int .i64 0]:List Value).toArray (n*17)) 45)) w.heap.size n [] :=
 ⟨by rw [List.map_nil,List.nil_append,List.length_nil,Nat.sub_zero];exact RowW.made w 17 n zI rfl _,fun y hy=>by simp at hy,_,heap_alloc_new _ _⟩
theorem OutX.there {w:World} {g n:Nat} {ys:List Rt.ItL} (h:OutX w g n ys) {k:Nat} (hk:ys.length=k) (hn:k<n):w.there g (k*17) 17:=RowW.part h.row (i:=k) (by rw [List.length_append,List.length_map,List.length_replicate];omega)
theorem OutX.put {w:World} {g n:Nat} {ys:List Rt.ItL} (h:OutX w g n ys) {k:Nat} (hk:ys.length=k) (hn:k<n) (y:Rt.ItL) (hy:InX w y.1 y.2) (ho:It.Ok y.1) {CS:Array Value} (hc:(Rt.cl y).toArray=CS):OutX (w.setCells g (k*17) CS.toList) g n (ys ++ [y]):=by
 subst hc hk
 refine ⟨?_,?_,BkI.setC _ _ _ h.blk⟩
 · have h1:=h.row.set (i:=ys.length) (by simp;omega) (cs:=Rt.cl y) rfl
   have e:(ys.map Rt.cl ++ List.replicate (n-ys.length) zI).set ys.length (Rt.cl y)=(ys ++ [y]).map Rt.cl ++ List.replicate (n-(ys ++ [y]).length) zI:=by
    have:=Rt.row_step (l:=ys.map Rt.cl) (z:=zI) (v:=Rt.cl y) (m:=n-(ys.length+1))
    rw [List.length_map] at this
    rw [show n-ys.length=n-(ys.length+1)+1 by omega,this]
    simp
   rw [e] at h1
   exact h1
 · intro z hz
   rcases List.mem_append.1 hz with hz | hz
   · exact ⟨InX.setC _ _ _ h.blk (h.ins z hz).1,(h.ins z hz).2⟩
   · obtain rfl:z=y:=by simpa using hz
     exact ⟨InX.setC _ _ _ h.blk hy,ho⟩
theorem OutX.sl {w:World} {g n:Nat} {ys:List Rt.ItL} (h:OutX w g n ys) (hn:ys.length=n):Rt.SlIt w (some ⟨g,0,none⟩) ys:=by
 have hr:=h.row
 rw [hn,Nat.sub_self,List.replicate_zero,List.append_nil] at hr
 exact ⟨hr.sl,fun y hy=>(h.ins y hy).1.in_ (h.ins y hy).2⟩
def RetI (r:Int×List It.Item) (e:Ending) (w':World):Prop:=∃ A' c' ys,e=.returned (.tuple #[.slice A' r.2.length c',.int .i64 r.1])∧Rt.its ys=r.2∧Rt.SlIt w' A' ys
theorem slIt_nil (w:World) (A:Option Addr):Rt.SlIt w A []:=⟨Or.inl rfl,fun x hx=>by cases hx⟩
theorem RetI.bad {r:Int×List It.Item} {er:Int} (h:r=(er,[])) (w':World):RetI r (.returned (.tuple #[.slice none 0 0,.int .i64 er])) w':=by
 subst h
 exact ⟨none,0,[],rfl,rfl,slIt_nil _ _⟩
theorem KidsAt.rng {B lo d : Nat} {w : World} {L : Option Addr × Nat} {ks : List Nd} (h : KidsAt B lo (d + 1) w L ks) {i : Nat} {x : Nd} (hi : ks[i]? = some x) :
    ∃ (b off:Nat) (M:Option Addr×Nat),L.1=some ⟨b,off,none⟩∧b<w.heap.size∧w.rangeAt b (off+i*5) (ndc x M)∧KidsAt B lo d w M x.kids:=by
 obtain ⟨_,_,_,h⟩:=h
 rcases h with h | ⟨b,off,Ls,e,hl,hb,hL,hc⟩
 · subst h
   simp at hi
 · have hil:i<ks.length:=(List.getElem?_eq_some_iff.1 hi).1
   have hM:Ls[i]?=some (Ls[i]'(by omega)):=List.getElem?_eq_getElem (by omega)
   obtain ⟨h1,h2⟩:=hc i x _ hi hM
   refine ⟨b,off,_,e,hb,fun j v hv=>?_,h2⟩
   have:=h1 j v hv
   rw [← Nat.add_assoc] at this
   exact this
namespace Bu
theorem decI_err {cnt:Int} {p:List Int} {er:Int} (h:dNd 4 8 p=.error er):decI cnt p=(er,[]):=by unfold decI;rw [h]
theorem decI_bad {cnt:Int} {p:List Int} {x:Nd} {l:List Int} {er:Int} (h:dNd 4 8 p=.ok (x,l)) (he:treeE cnt x l=er) (h0:er≠0):decI cnt p=(er,[]):=by
 unfold decI
 rw [h]
 simp only
 rw [he,if_pos h0]
theorem decI_ok {cnt:Int} {p:List Int} {x:Nd} {l:List Int} (h:dNd 4 8 p=.ok (x,l)) (he:treeE cnt x l=0):decI cnt p=(0,kidsI x.kids):=by
 unfold decI
 rw [h]
 simp only
 rw [he,if_neg (by simp)]
theorem treeE_form {cnt:Int} {x:Nd} {l:List Int} (h:l≠[]∨x.kind≠3∨x.tag≠48∨(x.kids.length:Int)≠cnt):treeE cnt x l=2:=by
 unfold treeE
 by_cases hl:l≠[]
 · rw [if_pos hl]
 · rw [if_neg hl,if_pos (h.resolve_left hl)]
theorem treeE_kids {cnt:Int} {x:Nd} (h1:x.kind=3) (h2:x.tag=48) (h3:(x.kids.length:Int)=cnt):treeE cnt x []=Rs.fstN (kidE x.kids) x.kids.length:=by
 unfold treeE
 rw [if_neg (by simp),if_neg]
 rintro (h | h | h)
 · exact h h1
 · exact h h2
 · exact h h3
theorem kidE_at {ks:List Nd} {i:Nat} {k:Nd} (h:ks[i]?=some k):kidE ks i=decErr k:=by unfold kidE;rw [h]
theorem kidsI_next {ks:List Nd} {i:Nat} {k:Nd} (h:ks[i]?=some k):(kidsI ks).take (i+1)=(kidsI ks).take i ++ [itemOf k.kids]:=by
 unfold kidsI
 rw [List.take_add_one,List.getElem?_map,h]
 rfl
theorem kidsI_len (ks:List Nd):(kidsI ks).length=ks.length:=by unfold kidsI;rw [List.length_map]
theorem decErr_tr {x:Nd} (h:decErr x=0):isTr x=true:=by
 unfold decErr at h
 split at h
 · assumption
 · cases h
end Bu
set_option maxRecDepth 100000 in
set_option maxHeartbeats 25600000 in
theorem bdecode_any (A : Option Addr) (c : Nat) (ps : List Int) {n : Nat} (hn : ps.length = n) (hc : n ≤ c) (hB : Bu.Byt ps) (hl : n ≤ 1048576) (m : Nat) (hm : m ≤ 60) (w : World) (h : SlU w A ps) (hg : ∀ w', Ext w w' → Gm w') :
    Calls Tryz.prog 43 #[.slice A n c,.int .i64 (m:Int)] w fun e w'=>RetI (Bu.decI (m:Int) ps) e w'∧Ext w w':=by
 have HK:=Hi (cdecode_any A ps hB n c hn hc hl w h)
 have HG:=Hi hg
 obtain ⟨R,hR⟩:∃ R,Bu.dNd 4 8 ps=R:=⟨_,rfl⟩
 rw [hR] at HK
 have HRR:=Hi hR
 clear h hg hB hn hc
 match R,hR with
 | .error er,hR =>
  have hpos:=Bu.dNd_err (en:=4) (by decide) 8 ps er hR
  have HF:=Hi (Bu.decI_err (cnt:=(m:Int)) hR)
  have t1:(er != 0)=true:=by rw [bne_iff_ne];omega
  clear hR hpos
  go_enter Tryz.func43,Tryz.ntmps43
  go_wp2_with fail
  with_reducible refine HK.out.mono ?_
  rintro e w1 ⟨hp,hx1⟩
  change e=.returned (.tuple #[.agg #[.int .i64 0,.int .i64 0,.int .i64 0,.string ⟨#[]⟩,.slice none 0 0],.int .i64 0,.int .i64 er]) at hp
  subst hp
  have X1:=Hi (hx1.alloc (.cells #[.int .i64 0,.int .i64 0,.int .i64 0,.string ⟨#[]⟩,.slice none 0 0] 52))
  clear HK hx1
  go_wp2
  go_ret2
  exact ⟨RetI.bad HF.out _,X1.out⟩
 | .ok (x,l),hR =>
  have HSM:=Hi (Bu.dNd_sm 4 8 ps x l hR)
  have HFR:=Hi (fun er=>Bu.decI_bad (cnt:=(m:Int)) (er:=er) hR)
  have HOK:=Hi (Bu.decI_ok (cnt:=(m:Int)) hR)
  clear hR
  go_enter Tryz.func43,Tryz.ntmps43
  go_wp2_with fail
  with_reducible refine HK.out.mono ?_
  rintro e w1 ⟨⟨hln,M,he,hM⟩,hx1⟩
  obtain ⟨tg,kk,nn,ss,Ak,lk,ck,hCS,hT,hK,hLk,hAk,hck⟩:∃ (tg kk nn:Int) (ss:ByteArray) (Ak:Option Addr) (lk ck:Nat),nda x M=.agg #[.int .i64 tg,.int .i64 kk,.int .i64 nn,.string ss,.slice Ak lk ck]∧x.tag=tg∧x.kind=kk∧x.kids.length=lk∧M.1=Ak∧M.2=ck:=⟨_,_,_,_,_,_,_,rfl,rfl,rfl,rfl,rfl,rfl⟩
  rw [hCS] at he
  subst he
  have HKD:=Hi (hM.to (lo:=0) (fun b _=>Nat.zero_le b))
  have HTG:=Hi hT
  have HKK:=Hi hK
  have HLK:=Hi hLk
  have HM1:=Hi (show M=(Ak,ck) by rw [← hAk,← hck])
  have ZLK:Hid (x.kids.length=lk):=HLK
  obtain ⟨q,hq⟩:∃ q,n-l.length=q:=⟨_,rfl⟩
  rw [hq]
  have HQ:=Hi hq
  obtain ⟨W2,hW2⟩:∃ W,w1.alloc (.cells #[.int .i64 tg,.int .i64 kk,.int .i64 nn,.string ss,.slice Ak lk ck] 52)=W:=⟨_,rfl⟩
  have X12:=Hi (show Ext w1 W2 by rw [← hW2];exact (Ext.refl _).alloc _)
  have HX:=Hi (hx1.trans X12.out)
  have c0:W2.cell? ⟨w1.heap.size,0,none⟩=some (.int .i64 tg):=by rw [← hW2];exact World.cell?_alloc_new _ _ _ _
  have c1:W2.cell? ⟨w1.heap.size,1,none⟩=some (.int .i64 kk):=by rw [← hW2];exact World.cell?_alloc_new _ _ _ _
  have c4:W2.cell? ⟨w1.heap.size,4,none⟩=some (.slice Ak lk ck):=by rw [← hW2];exact World.cell?_alloc_new _ _ _ _
  have HE2:=Hi hW2
  have HLN:=Hi hln
  clear hM hCS hT hK hLk hAk hck hx1 hW2 HK hq hln
  by_cases hz:l=[]
  case neg =>
   have HF:=Hi (HFR.out 2 (Bu.treeE_form (Or.inl hz)) (by decide))
   have t2:((q:Int) != (n:Int))=true:=by
    have h1:=HQ.out
    have h2:=HLN.out
    have h3:0<l.length:=List.length_pos_iff.2 hz
    rw [bne_iff_ne]
    omega
   clear hz
   go_wp2_with (rw [HE2.out])
   go_ret2
   exact ⟨RetI.bad HF.out _,HX.out⟩
  subst hz
  have t2:((q:Int) != (n:Int))=false:=by
   have h1:=HQ.out
   rw [List.length_nil] at h1
   rw [show q=n by omega]
   simp
  by_cases h3:kk=3
  case neg =>
   have HF:=Hi (HFR.out 2 (Bu.treeE_form (Or.inr (Or.inl (by rw [HKK.out];exact h3)))) (by decide))
   have t3:(kk != 3)=true:=by rw [bne_iff_ne];exact h3
   clear h3
   go_wp2_with (rw [HE2.out])
   go_ret2
   exact ⟨RetI.bad HF.out _,HX.out⟩
  by_cases h4:tg=48
  case neg =>
   have HF:=Hi (HFR.out 2 (Bu.treeE_form (Or.inr (Or.inr (Or.inl (by rw [HTG.out];exact h4))))) (by decide))
   have t3:(kk != 3)=false:=by rw [h3];rfl
   have t4:(tg != 48)=true:=by rw [bne_iff_ne];exact h4
   clear h3 h4
   go_wp2_with (rw [HE2.out])
   go_ret2
   exact ⟨RetI.bad HF.out _,HX.out⟩
  by_cases h5:lk=m
  case neg =>
   have HF:=Hi (HFR.out 2 (Bu.treeE_form (Or.inr (Or.inr (Or.inr (by rw [ZLK.out];omega))))) (by decide))
   have t3:(kk != 3)=false:=by rw [h3];rfl
   have t4:(tg != 48)=false:=by rw [h4];rfl
   have t5:((lk:Int) != (m:Int))=true:=by rw [bne_iff_ne];omega
   clear h3 h4 h5
   go_wp2_with (rw [HE2.out])
   go_ret2
   exact ⟨RetI.bad HF.out _,HX.out⟩
  subst h5
  have HTE:Hid (Bu.treeE (lk:Int) x []=Rs.fstN (Bu.kidE x.kids) lk):=Hi (by
   rw [Bu.treeE_kids (HKK.out.trans h3) (HTG.out.trans h4) (by rw [ZLK.out]),ZLK.out])
  have t3:(kk != 3)=false:=by rw [h3];rfl
  have t4:(tg != 48)=false:=by rw [h4];rfl
  have t5:((lk:Int) != (lk:Int))=false:=by simp
  have hmk:=make_it lk (by omega) W2
  obtain ⟨W3,hW3⟩:∃ W,W2.alloc (.cells (madeCells ([.int .i64 0,.int .i64 0,.int .i64 0,.string ⟨#[]⟩,.slice none 0 0,.slice none 0 0,.int .i64 0,.int .i64 0,.slice none 0 0,.int .i64 0,.string ⟨#[]⟩,.int .i64 0,.int .i64 0,.int .i64 0,.int .i64 0,.slice none 0 0,.int .i64 0]:List Value).toArray (lk*17)) 45)=W:=⟨_,rfl⟩
  rw [hW3] at hmk
  have HR0:Hid (OutX W3 W2.heap.size lk []):=Hi (by rw [← hW3];exact OutX.made W2 lk)
  have HX3:Hid (Ext W2 W3):=Hi (by rw [← hW3];exact (Ext.refl _).alloc _)
  have c4':W3.cell? ⟨w1.heap.size,4,none⟩=some (.slice Ak lk ck):=HX3.out.keep c4
  have HKA:=Hi (fun wr (he:Ext W2 wr)=>HKD.out.ext (X12.out.trans he))
  clear hW3 h3 h4 HTG HKK HKD
  go_wp2_with (rw [HE2.out])
  go_loopw [45] (fun i wr=>∃ (k:Nat) (ys:List Rt.ItL),k≤lk∧i=.int .i64 (k:Int)∧Hid (ys.length=k)∧Hid (Rt.its ys=(Bu.kidsI x.kids).take k)∧Hid (Rs.fstN (Bu.kidE x.kids) k=0)∧Hid (OutX wr W2.heap.size lk ys)∧Hid (Ext W2 wr)) (fun i _=>lk-(intOf i).toNat)
  case atStart=>exact ⟨0,[],Nat.zero_le _,rfl,Hi rfl,Hi rfl,Hi rfl,HR0,HX3⟩
  case round =>
   clear HR0 HX3 c0 c1 c4 c4' t2 t3 t4 t5
   obtain ⟨k,ys,hk,rfl,HYL,HYI,HZ,HR,HE3⟩:=hrel
   by_cases hlt:k<lk
   · obtain ⟨y,hy⟩:∃ y,x.kids[k]?=some y:=⟨x.kids[k]'(by rw [ZLK.out];exact hlt),List.getElem?_eq_getElem _⟩
     have hka:=HKA.out wr HE3.out
     rw [HM1.out] at hka
     obtain ⟨b,off,My,hA,hb,hrg,hky⟩:=hka.rng hy
     have hA:Ak=some ⟨b,off,none⟩:=hA
     subst hA
     obtain ⟨CN,hCN,hCL,hCz,hC1⟩:∃ CN:Array Value,nda y My=.agg CN∧ndc y My=CN.toList∧CN.size=5∧CN.all (·.oneCell')=true:=⟨_,rfl,rfl,rfl,by simp [Value.oneCell']⟩
     rw [hCL] at hrg
     have HC:=Hi hrg
     have IC:Hid ((Tryz.prog.info? 52).map (·.size)=some CN.size):=Hi (by rw [hCz];kernel_rfl)
     have NC:=Hi hCz
     have OC:=Hi hC1
     have hsm:=HSM.out
     have hsy:Bu.SmT y:=fun d=>⟨(hsm (d+1)).1.kid (List.mem_of_getElem? hy),(hsm (d+1)).2.kid (List.mem_of_getElem? hy)⟩
     have hVD:=fun W' (hx:Ext wr W')=>decode_any 1024 5 y My W' (hky.ext hx) (hsy 2).1 (hsy 2).2 (fun z hz=>Nat.le_trans (hky.few2 z hz) (by decide)) (HG.out W' (HX.out.trans (HE3.out.trans hx)))
     rw [hCN] at hVD
     obtain ⟨de,hde⟩:∃ q,decErr y=q:=⟨_,rfl⟩
     rw [hde] at hVD
     have HKE:Hid (Bu.kidE x.kids k=de):=Hi ((Bu.kidE_at hy).trans hde)
     have HNX:=Hi (Bu.kidsI_next hy)
     have HVD:=Hi hVD
     have HOK2:Hid (de=0→It.Ok (itemOf y.kids)):=Hi (fun h0=>itemOf_ok (hsy 2).1 (hsy 2).2 (isTr_len (Bu.decErr_tr (hde.trans h0))))
     have ki0:(0:Int)≤(k:Int):=by omega
     have ki1:(k:Int)<(lk:Int):=by omega
     clear hy hka hrg hky hCN hCL hCz hC1 hsm hsy hVD hde
     go_wp2_with (first
      | (with_reducible refine wpList_load_arr rfl 52 (.tmp 48) rfl b (off+k*5) (by with_unfolding_all rfl) CN _ HC.out Tryz.underlying52 rfl IC.out ?_)
      | (with_reducible refine wpList_store_new rfl 52 (.tmp 11) (.tmp 49) rfl _ CN 52 (by with_unfolding_all rfl) (by with_unfolding_all rfl) IC.out (by with_unfolding_all exact NC.out.symm) OC.out ?_)
      | (with_reducible refine wpList_load_row rfl 52 (.tmp 11) rfl wr.heap.size (by with_unfolding_all rfl) _ CN _ _ (heap_alloc_last wr _) Tryz.underlying52 rfl IC.out ?_))
     have X0:Ext wr (wr.alloc (.cells CN 52)):=(Ext.refl _).alloc _
     have X1:=HE3.out.trans X0
     with_reducible refine (HVD.out _ X0).mono ?_
     rintro e w3 ⟨hp,hb3⟩
     have HE5:=Hi (X1.trans hb3)
     have HR3:=Hi (HR.out.ext (X0.trans hb3))
     have HTH:=Hi (HR3.out.there HYL.out hlt)
     by_cases h0:de=0
     · obtain ⟨L,he,hin⟩:=hp.1 h0
       subst h0
       obtain ⟨CA,hca,hna,h1a,hka⟩:=rs_packed (itemOf y.kids) L
       rw [hca] at he
       subst he
       have IA:=Hi (Rt.infoItem hna)
       have OA:=Hi h1a
       have HPUT:=Hi (HR3.out.put HYL.out hlt (itemOf y.kids,L) hin (HOK2.out rfl) (CS:=CA) hka)
       have HE6:=Hi (Ext.setCells (g:=W2.heap.size) (Nat.le_refl _) CA.toList (k*17) w3 HE5.out)
       have HTH2:Hid (w3.there W2.heap.size (k*17) CA.size):=Hi (by rw [hna];exact HTH.out)
       clear hp hin hca hna h1a hka hb3 X0 X1 HR3 HVD
       go_wp2_with (with_reducible refine wpList_store_arr rfl 45 (.tmp 57) (.tmp 55) rfl W2.heap.size (k*17) CA (by with_unfolding_all rfl) (by with_unfolding_all rfl) HTH2.out IA.out OA.out ?_)
       go_roundw
       case rel=>exact ⟨k+1,ys ++ [(itemOf y.kids,L)],by omega,by go_num,Hi (by rw [List.length_append,HYL.out];rfl),Hi (by rw [HNX.out,← HYI.out];unfold Rt.its;rw [List.map_append];rfl),Hi (Rs.fstN_next HZ.out HKE.out),HPUT,HE6⟩
       case measure=>simp [intOf] <;> omega
     · have he:=hp.2 h0
       subst he
       have HF:=Hi (HFR.out de (by rw [HTE.out];exact Rs.fstN_hit hlt HZ.out HKE.out h0) h0)
       have t1:(de != 0)=true:=by rw [bne_iff_ne];exact h0
       have HTH2:Hid (w3.there W2.heap.size (k*17) (#[.int .i64 0,.int .i64 0,.int .i64 0,.string ⟨#[]⟩,.slice none 0 0,.slice none 0 0,.int .i64 0,.int .i64 0,.slice none 0 0,.int .i64 0,.string ⟨#[]⟩,.int .i64 0,.int .i64 0,.int .i64 0,.int .i64 0,.slice none 0 0,.int .i64 0]:Array Value).size):=HTH
       have HE6:=Hi (Ext.setCells (g:=W2.heap.size) (Nat.le_refl _) (#[.int .i64 0,.int .i64 0,.int .i64 0,.string ⟨#[]⟩,.slice none 0 0,.slice none 0 0,.int .i64 0,.int .i64 0,.slice none 0 0,.int .i64 0,.string ⟨#[]⟩,.int .i64 0,.int .i64 0,.int .i64 0,.int .i64 0,.slice none 0 0,.int .i64 0]:Array Value).toList (k*17) w3 HE5.out)
       clear hp hb3 X0 X1 HR3 HVD h0
       go_wp2_with (with_reducible refine wpList_store_arr rfl 45 (.tmp 57) (.tmp 55) rfl W2.heap.size (k*17) #[.int .i64 0,.int .i64 0,.int .i64 0,.string ⟨#[]⟩,.slice none 0 0,.slice none 0 0,.int .i64 0,.int .i64 0,.slice none 0 0,.int .i64 0,.string ⟨#[]⟩,.int .i64 0,.int .i64 0,.int .i64 0,.int .i64 0,.slice none 0 0,.int .i64 0] (by with_unfolding_all rfl) (by with_unfolding_all rfl) HTH2.out (by kernel_rfl) (by simp [Value.oneCell']) ?_)
       go_ret2
       exact ⟨RetI.bad HF.out _,HX.out.trans HE6.out⟩
   · have hkn:k=lk:=by omega
     have ki1:¬ (k:Int)<(lk:Int):=by omega
     subst hkn
     have HF:=Hi (HOK.out (HTE.out.trans HZ.out))
     have HSL:=Hi (HR.out.sl HYL.out)
     have HYI2:Hid (Rt.its ys=Bu.kidsI x.kids):=Hi (by rw [HYI.out,List.take_of_length_le (by rw [Bu.kidsI_len,ZLK.out];exact Nat.le_refl _)])
     have HKL:Hid ((Bu.kidsI x.kids).length=k):=Hi (by rw [Bu.kidsI_len,ZLK.out])
     go_wp2
     go_ret2
     refine ⟨?_,HX.out.trans HE3.out⟩
     rw [HF.out]
     exact ⟨some ⟨W2.heap.size,0,none⟩,k,ys,by rw [HKL.out];rfl,HYI2.out,HSL.out⟩
theorem exec_slice_low {P : Program} {ev : Operand → Value} {o : Oper} {w : World} {t e : TypeId} {x lo : Operand} {vx vl v : Value} (hu : P.underlying t = some (.slice e)) (ho : o.op = .slice t x (some lo) none none) (hx : ev x = vx) (hl : ev lo = vl)
    (hr:(Instr.slice t vx (some vl) none none).run P w=.ok v w):(execOp ev o).run P w=.ok (.value v) w:=by
 have h2:(Instr.sliceAt t vx (some vl) none none).run P w=.ok v w:=by rw [← hr];simp [Instr.sliceAt,run_underlying hu]
 unfold execOp
 simp only [ho,Sem.run_bind,Sem.run_pure,Result.andThen_ok,Option.map_some,Option.map_none,hx,hl,h2]
namespace Bu
def opP (key:Int) (s:List Int):List Int:=if openE key s=0 then openP key s else []
def opN (key:Int) (s:List Int):Int:=if openE key s=0 then openN s else 0
theorem openE_len {key:Int} {s:List Int} (h:openE key s=0):16≤s.length∧s.length≤1048592:=by
 unfold openE at h
 split at h
 · cases h
 · split at h
   · cases h
   · omega
theorem openP_len {key:Int} {s:List Int} (h:openE key s=0):(openP key s).length=s.length-16:=by
 have:=openE_len h
 unfold openP
 rw [mix_len,List.length_drop,List.length_take]
 omega
theorem openP_byt {key:Int} {s:List Int} (h:Byt s):Byt (openP key s):=mix_byt _ _ ((h.take _).drop _)
end Bu
theorem OpnPost.all {key : Int} {s : List Int} {n : Nat} {e : Ending} {w' : World} (h : OpnPost key s n e w') (hn : s.length = n) :
    ∃ W:Option Addr×Nat,e=.returned (.tuple #[.slice W.1 (Bu.opP key s).length W.2,.int .u64 (Bu.opN key s),.int .i64 (Bu.openE key s)])∧SlU w' W.1 (Bu.opP key s)∧(Bu.opP key s).length≤W.2:=by
 unfold Bu.opP Bu.opN
 by_cases h0:Bu.openE key s=0
 · obtain ⟨A,c,he,hs,hc⟩:=h.2 h0
   rw [if_pos h0,if_pos h0,h0,Bu.openP_len h0,hn]
   exact ⟨(A,c),he,hs,hc⟩
 · rw [if_neg h0,if_neg h0]
   exact ⟨(none,0),h.1 h0,SlU.nil _ _,Nat.le_refl _⟩
def RetO (r:Int×List It.Item) (ses:Int) (e:Ending) (w':World):Prop:=∃ A' c' ys,e=.returned (.tuple #[.int .i64 ses,.slice A' r.2.length c',.int .i64 r.1])∧Rt.its ys=r.2∧Rt.SlIt w' A' ys
theorem RetO.bad {r:Int×List It.Item} {ses er:Int} (h:r=(er,[])) (hs:ses=0) (w':World):RetO r ses (.returned (.tuple #[.int .i64 0,.slice none 0 0,.int .i64 er])) w':=by
 subst h hs
 exact ⟨none,0,[],rfl,rfl,slIt_nil _ _⟩
namespace Bu
theorem opnS_bad {key:Int} {s:List Int} {er:Int} (h:opnR key s=(er,[])) (h0:er≠0):opnS key s=0:=by unfold opnS;rw [h,if_neg h0]
theorem opnR_head {key:Int} {s:List Int} {er:Int} (h:headE s=er) (h0:er≠0):opnR key s=(er,[]):=by unfold opnR;rw [h,if_pos h0]
theorem opnR_seal {key:Int} {s:List Int} {er:Int} (h:headE s=0) (ho:openE (derive key) (s.drop 20)=er) (h0:er≠0):opnR key s=(er,[]):=by unfold opnR;rw [h,if_neg (by simp),ho,if_pos h0]
theorem opnR_cont {key:Int} {s:List Int} (h:headE s=0) (ho:openE (derive key) (s.drop 20)=0):opnR key s=contE (headN s) (headR s) (openP (derive key) (s.drop 20)):=by unfold opnR;rw [h,if_neg (by simp),ho,if_neg (by simp)]
theorem contE_bad {cnt root:Int} {p:List Int} {er:Int} {l:List It.Item} (h:decI cnt p=(er,l)) (h0:er≠0):contE cnt root p=(er,[]):=by rw [contE_dec,h,if_pos h0]
theorem contE_chk {cnt root:Int} {p:List Int} {er:Int} {l:List It.Item} (h:decI cnt p=(0,l)) (hc:Rs.chkI l=er) (h0:er≠0):contE cnt root p=(er,[]):=by
 have e:restE root l=er:=by unfold restE;rw [hc,if_pos h0]
 rw [contE_dec,h]
 simp only
 rw [e,if_neg (by simp),if_pos h0]
theorem contE_root {cnt root:Int} {p:List Int} {l:List It.Item} (h:decI cnt p=(0,l)) (hc:Rs.chkI l=0) (hr:rootV l≠root):contE cnt root p=(12,[]):=by
 have e:restE root l=12:=by unfold restE;rw [hc,if_neg (by simp),if_pos hr]
 rw [contE_dec,h]
 simp only
 rw [e,if_neg (by simp),if_pos (by decide)]
theorem contE_ok {cnt root:Int} {p:List Int} {l:List It.Item} (h:decI cnt p=(0,l)) (hc:Rs.chkI l=0) (hr:rootV l=root):contE cnt root p=(0,l):=by
 have e:restE root l=0:=by unfold restE;rw [hc,if_neg (by simp),if_neg (by rw [hr];simp)]
 rw [contE_dec,h]
 simp only
 rw [e,if_neg (by simp),if_neg (by simp)]
theorem decI_len {m:Nat} {p:List Int} {l:List It.Item} (h:decI (m:Int) p=(0,l)):l.length=m:=by
 unfold decI at h
 cases hd:dNd 4 8 p with
 | error e =>
  rw [hd] at h
  have:=dNd_err (en:=4) (by decide) 8 p e hd
  simp only [Prod.mk.injEq] at h
  omega
 | ok y =>
  obtain ⟨x,r⟩:=y
  rw [hd] at h
  simp only at h
  by_cases ht:treeE (m:Int) x r=0
  · rw [if_neg (by simpa using ht)] at h
    simp only [Prod.mk.injEq,true_and] at h
    rw [← h,kidsI_len]
    unfold treeE at ht
    split at ht
    · cases ht
    · split at ht
      · cases ht
      · rename_i h2
        have:(x.kids.length:Int)=(m:Int):=Classical.byContradiction fun e=>h2 (Or.inr (Or.inr e))
        omega
  · rw [if_pos ht] at h
    simp only [Prod.mk.injEq] at h
    exact absurd h.1 ht
theorem opnS_ok {key:Int} {s:List Int} {l:List It.Item} (h:opnR key s=(0,l)):opnS key s=headS s:=by unfold opnS;rw [h,if_pos rfl]
theorem headE_len {s:List Int} (h:headE s=0):20≤s.length:=by
 unfold headE at h
 split at h
 · cases h
 · omega
theorem headE_cnt {s:List Int} (h:headE s=0):∃ m:Nat,headN s=(m:Int)∧m≤60:=by
 have h0:=(rdB_range (sub s 8 12)).1
 unfold headE at h
 split at h
 · cases h
 · split at h
   · cases h
   · split at h
     · cases h
     · rename_i h3
       refine ⟨(rdB (sub s 8 12)).toNat,?_,by omega⟩
       unfold headN
       omega
theorem derive_range (key:Int):U64 (derive key):=dgA_range (dgA_range (dgOf_range []) _) _
end Bu
def bveL (A:Option Addr) (n c pn:Nat) (key dk nn er:Int) (ps:List Int):List (Option Value→World→Prop):=[fun u _=>u=some (.int .u64 key),
 fun u _=>u=some (.int .u64 dk),
 fun u _=>u=some (.slice A n c),
 fun u _=>u=some (.slice (moved A c 20 1) (n-20) (c-20)),
 fun u w=>∃ W:Option Addr×Nat,u=some (.tuple #[.slice W.1 pn W.2,.int .u64 nn,.int .i64 er])∧SlU w W.1 ps∧pn≤W.2,
 fun u w=>∃ W:Option Addr×Nat,u=some (.tuple #[.slice W.1 pn W.2,.int .u64 nn,.int .i64 er])∧SlU w W.1 ps∧pn≤W.2,
 fun u w=>∃ W:Option Addr×Nat,u=some (.slice W.1 pn W.2)∧SlU w W.1 ps∧pn≤W.2,
 fun u _=>u=some (.int .u64 nn),
 fun u _=>u=some (.int .i64 er),
 fun u w=>∃ W:Option Addr×Nat,u=some (.slice W.1 pn W.2)∧SlU w W.1 ps∧pn≤W.2,
 fun u _=>u=some (.int .u64 nn),
 fun u _=>u=some (.int .i64 er)]
theorem bveL_mono (A:Option Addr) (n c pn:Nat) (key dk nn er:Int) (ps:List Int):AllMono (bveL A n c pn key dk nn er ps):=⟨mono_val _,mono_val _,mono_val _,mono_val _,fun _ _ _ he h=>h.elim fun b h=>⟨b,h.1,h.2.1.ext he,h.2.2⟩,fun _ _ _ he h=>h.elim fun b h=>⟨b,h.1,h.2.1.ext he,h.2.2⟩,fun _ _ _ he h=>h.elim fun b h=>⟨b,h.1,h.2.1.ext he,h.2.2⟩,mono_val _,mono_val _,fun _ _ _ he h=>h.elim fun b h=>⟨b,h.1,h.2.1.ext he,h.2.2⟩,mono_val _,mono_val _,trivial⟩
def bveR (A:Option Addr) (n c pn:Nat) (key dk nn er:Int) (ps:List Int) (j:Nat) (u:Option Value) (w:World):Prop:=(bveL A n c pn key dk nn er ps).getD j (fun _ _=>True) u w
theorem bveR_ext (A:Option Addr) (n c pn:Nat) (key dk nn er:Int) (ps:List Int) (j:Nat) (u:Option Value) (w w':World) (he:Ext w w') (hR:bveR A n c pn key dk nn er ps j u w):bveR A n c pn key dk nn er ps j u w':=((bveL_mono A n c pn key dk nn er ps).at_ j) u w w' he hR
def bveD:List Nat:=[26,27,28,29,30,25,31,32,33,11,12,10]
def bveE (A:Option Addr) (n c:Nat) (key:Int) (t:Array Value):Prop:=t.getD 0 undef=.int .u64 key∧t.getD 1 undef=.slice A n c∧t.size=59
set_option maxRecDepth 100000 in
set_option maxHeartbeats 25600000 in
theorem bopen_any (key : Int) (hkey : Bu.U64 key) (A : Option Addr) (c : Nat) (s : List Int) {n : Nat} (hn : s.length = n) (hc : n ≤ c) (hB : Bu.Byt s) (hl : n ≤ 9223372036854775807) (w : World) (h : SlU w A s) (hg : ∀ w', Ext w w' → Gm w') :
    Calls Tryz.prog 16 #[.int .u64 key,.slice A n c] w fun e w'=>RetO (Bu.opnR key s) (Bu.opnS key s) e w'∧Ext w w':=by
 have HG:=Hi hg
 clear hg
 have HK:=Hi (head_any A c s hn hc hB hl w h)
 obtain ⟨er0,her0⟩:∃ q,Bu.headE s=q:=⟨_,rfl⟩
 unfold Bu.hdS Bu.hdN Bu.hdR at HK
 rw [her0] at HK
 by_cases h0:er0=0
 case neg =>
  have HF:=Hi (Bu.opnR_head (key:=key) her0 h0)
  have HS:=Hi (Bu.opnS_bad HF.out h0)
  have t1:(er0 != 0)=true:=by rw [bne_iff_ne];exact h0
  rw [if_neg h0,if_neg h0,if_neg h0] at HK
  clear her0 h0 h hB
  go_enter Tryz.func16,Tryz.ntmps16
  go_wp2_with fail
  with_reducible refine HK.out.mono ?_
  rintro e w1 ⟨rfl,hx1⟩
  go_wp2
  go_ret3
  exact ⟨RetO.bad HF.out HS.out _,hx1⟩
 subst h0
 rw [if_pos rfl,if_pos rfl,if_pos rfl] at HK
 have hn20:20≤n:=by rw [← hn];exact Bu.headE_len her0
 obtain ⟨m,hm,hm60⟩:=Bu.headE_cnt her0
 rw [hm] at HK
 obtain ⟨dk,hdk⟩:∃ q,Bu.derive key=q:=⟨_,rfl⟩
 have HDR:=Hi (fun W=>derive_any key hkey ⟨#[98,117,110,100,108,101]⟩ (v:=dk) hdk (by decide) W)
 have hln:(s.drop 20).length=n-20:=by rw [List.length_drop,hn]
 have hO:=fun W' (hx:Ext w W')=>copen_any dk (by rw [← hdk];exact Bu.derive_range key) (moved A c 20 1) (c-20) (s.drop 20) hln (by omega) (hB.drop 20) (by omega) W' ((SlU.drop hn h hc 20).ext hx)
 have hO2:=fun W' (hx:Ext w W')=>(hO W' hx).mono fun e w' ⟨a,b⟩=>And.intro (OpnPost.all a hln) b
 obtain ⟨ps,hps⟩:∃ q,Bu.opP dk (s.drop 20)=q:=⟨_,rfl⟩
 obtain ⟨nn,hnn⟩:∃ q,Bu.opN dk (s.drop 20)=q:=⟨_,rfl⟩
 obtain ⟨er,her⟩:∃ q,Bu.openE dk (s.drop 20)=q:=⟨_,rfl⟩
 obtain ⟨pn,hpn⟩:∃ q,ps.length=q:=⟨_,rfl⟩
 simp only [hps,hnn,her,hpn] at hO2
 have HO:=Hi hO2
 have HEO:Hid (Bu.openE (Bu.derive key) (s.drop 20)=er):=Hi (by rw [hdk];exact her)
 have HPS:Hid (er=0→Bu.openP (Bu.derive key) (s.drop 20)=ps∧pn≤1048576∧Bu.Byt ps):=Hi (fun h0=>by
  rw [h0] at her
  have e1:Bu.openP dk (s.drop 20)=ps:=by rw [← hps];unfold Bu.opP;rw [if_pos her]
  have e2:=Bu.openP_len her
  have e3:=Bu.openE_len her
  rw [e1,hpn] at e2
  exact ⟨by rw [hdk];exact e1,by omega,by rw [← e1];exact Bu.openP_byt (hB.drop 20)⟩)
 have HE0:=Hi her0
 have HM:=Hi hm
 have HPN:=Hi hpn
 have END:=Hi (enters_of Tryz.func27 (by kernel_rfl) rfl)
 have ENO:=Hi (enters_of Tryz.func42 (by kernel_rfl) rfl)
 obtain ⟨rh,hrh⟩:∃ q,Bu.headR s=q:=⟨_,rfl⟩
 rw [hrh] at HK
 have HRH:=Hi hrh
 obtain ⟨sh,hsh⟩:∃ q,Bu.headS s=q:=⟨_,rfl⟩
 rw [hsh] at HK
 have HSH:=Hi hsh
 clear hO hO2 hps hnn her hpn hdk hln her0 hm hrh hsh h hB hn hc hkey
 go_enter Tryz.func16,Tryz.ntmps16
 go_wp2_with fail
 with_reducible refine HK.out.mono ?_
 rintro e w1 ⟨rfl,hx1⟩
 have HX:=Hi hx1
 clear hx1 HK
 go_wp2_with fail
 refine region_tb (by kernel_rfl) (by decide +kernel) (bveE A n c key) ⟨rfl,rfl,rfl⟩ 12 bveD (fun _=>none) (bveR A n c pn key dk nn er ps) w1 (Ext.refl _) (fun i h1 h2=>absurd h2 (Nat.not_lt.2 h1)) ?_ ?_
 · intro Tv dd lv U wz i o hE ho hlv hd hT
   obtain ⟨t0,t1,tz⟩:=hE
   have hx:=hT.ext
   match i,ho,hlv,hd with
   | 0,ho,hlv,hd =>
    obtain rfl:=Option.some.inj ho
    have v0:=eval_old (d:=dd) (hT.out 0 (by decide)) (by omega) t0
    refine tbw_yield (v:=.int .u64 key) (bveR_ext A n c pn key dk nn er ps) hT ho hd (wanted_plain rfl) rfl (by decide) (by decide) ?_ (Ext.refl _) rfl
    generalize Act.eval ⟨over Tv U,dd⟩=ev at *
    simp [execOp,go_sem,v0]
   | 1,ho,hlv,hd =>
    obtain rfl:=Option.some.inj ho
    have f0:U 26=some (.int .u64 key):=hT.facts 0 (by decide) (dep hd 0 (by kernel_rfl)) (fun c e=>by cases e)
    have v0:Act.eval ⟨over Tv U,dd⟩ (.tmp 26)=_:=eval_new (t:=Tv) (d:=dd) f0 (by show 26<Tv.size;omega)
    have v1:Act.eval ⟨over Tv U,dd⟩ (.const (.string { data:=#[98,117,110,100,108,101] }))=.string { data:=#[98,117,110,100,108,101] }:=rfl
    refine tbw_call (f:=27) (args:=#[.int .u64 key,.string { data:=#[98,117,110,100,108,101] }]) (bveR_ext A n c pn key dk nn er ps) hT ho hd (wanted_plain rfl) rfl (by decide) (by decide) (exec_call2 rfl rfl v0 v1 END.out) ?_
    refine (HDR.out wz).mono ?_
    rintro e w' ⟨rfl,hb⟩
    exact ⟨_,rfl,hb,rfl⟩
   | 2,ho,hlv,hd =>
    obtain rfl:=Option.some.inj ho
    have v0:=eval_old (d:=dd) (hT.out 1 (by decide)) (by omega) t1
    refine tbw_yield (v:=.slice A n c) (bveR_ext A n c pn key dk nn er ps) hT ho hd (wanted_plain rfl) rfl (by decide) (by decide) ?_ (Ext.refl _) rfl
    generalize Act.eval ⟨over Tv U,dd⟩=ev at *
    simp [execOp,go_sem,v0]
   | 3,ho,hlv,hd =>
    obtain rfl:=Option.some.inj ho
    have f0:U 28=some (.slice A n c):=hT.facts 2 (by decide) (dep hd 2 (by kernel_rfl)) (fun c e=>by cases e)
    have v0:Act.eval ⟨over Tv U,dd⟩ (.tmp 28)=_:=eval_new (t:=Tv) (d:=dd) f0 (by show 28<Tv.size;omega)
    have v1:Act.eval ⟨over Tv U,dd⟩ (.const (.int .i64 20))=.int .i64 20:=rfl
    refine tbw_yield (v:=.slice (moved A c 20 1) (n-20) (c-20)) (bveR_ext A n c pn key dk nn er ps) hT ho hd (wanted_plain rfl) rfl (by decide) (by decide) (exec_slice_low Tryz.underlying24 rfl v0 v1 (run_slice_low wz _ _ 1 A n c 20 Tryz.underlying24 Tryz.infoU8s hn20)) (Ext.refl _) rfl
   | 4,ho,hlv,hd =>
    obtain rfl:=Option.some.inj ho
    have f0:U 27=some (.int .u64 dk):=hT.facts 1 (by decide) (dep hd 1 (by kernel_rfl)) (fun c e=>by cases e)
    have v0:Act.eval ⟨over Tv U,dd⟩ (.tmp 27)=_:=eval_new (t:=Tv) (d:=dd) f0 (by show 27<Tv.size;omega)
    have f1:U 29=some (.slice (moved A c 20 1) (n-20) (c-20)):=hT.facts 3 (by decide) (dep hd 3 (by kernel_rfl)) (fun c e=>by cases e)
    have v1:Act.eval ⟨over Tv U,dd⟩ (.tmp 29)=_:=eval_new (t:=Tv) (d:=dd) f1 (by show 29<Tv.size;omega)
    refine tbw_call (f:=42) (args:=#[.int .u64 dk,.slice (moved A c 20 1) (n-20) (c-20)]) (bveR_ext A n c pn key dk nn er ps) hT ho hd (wanted_plain rfl) rfl (by decide) (by decide) (exec_call2 rfl rfl v0 v1 ENO.out) ?_
    refine (HO.out wz (HX.out.trans hx)).mono ?_
    rintro e w' ⟨hp,hb⟩
    obtain ⟨Wp,he,h1,h2⟩:=hp
    exact ⟨_,he,hb,⟨Wp,rfl,h1,h2⟩⟩
   | 5,ho,hlv,hd =>
    obtain rfl:=Option.some.inj ho
    obtain ⟨W,e0,hW⟩:=hT.facts 4 (by decide) (dep hd 4 (by kernel_rfl)) (fun c e=>by cases e)
    have v0:Act.eval ⟨over Tv U,dd⟩ (.tmp 30)=_:=eval_new (t:=Tv) (d:=dd) e0 (by show 30<Tv.size;omega)
    refine tbw_yield (v:=.tuple #[.slice W.1 pn W.2,.int .u64 nn,.int .i64 er]) (bveR_ext A n c pn key dk nn er ps) hT ho hd (wanted_plain rfl) rfl (by decide) (by decide) ?_ (Ext.refl _) ⟨W,rfl,hW⟩
    generalize Act.eval ⟨over Tv U,dd⟩=ev at *
    simp [execOp,go_sem,v0]
   | 6,ho,hlv,hd =>
    obtain rfl:=Option.some.inj ho
    obtain ⟨W,e0,hW⟩:=hT.facts 5 (by decide) (dep hd 5 (by kernel_rfl)) (fun c e=>by cases e)
    have v0:Act.eval ⟨over Tv U,dd⟩ (.tmp 25)=_:=eval_new (t:=Tv) (d:=dd) e0 (by show 25<Tv.size;omega)
    refine tbw_yield (v:=.slice W.1 pn W.2) (bveR_ext A n c pn key dk nn er ps) hT ho hd (wanted_plain rfl) rfl (by decide) (by decide) ?_ (Ext.refl _) ⟨W,rfl,hW⟩
    generalize Act.eval ⟨over Tv U,dd⟩=ev at *
    simp [execOp,go_sem,v0]
   | 7,ho,hlv,hd =>
    obtain rfl:=Option.some.inj ho
    obtain ⟨W,e0,hW⟩:=hT.facts 5 (by decide) (dep hd 5 (by kernel_rfl)) (fun c e=>by cases e)
    have v0:Act.eval ⟨over Tv U,dd⟩ (.tmp 25)=_:=eval_new (t:=Tv) (d:=dd) e0 (by show 25<Tv.size;omega)
    refine tbw_yield (v:=.int .u64 nn) (bveR_ext A n c pn key dk nn er ps) hT ho hd (wanted_plain rfl) rfl (by decide) (by decide) ?_ (Ext.refl _) rfl
    generalize Act.eval ⟨over Tv U,dd⟩=ev at *
    simp [execOp,go_sem,v0]
   | 8,ho,hlv,hd =>
    obtain rfl:=Option.some.inj ho
    obtain ⟨W,e0,hW⟩:=hT.facts 5 (by decide) (dep hd 5 (by kernel_rfl)) (fun c e=>by cases e)
    have v0:Act.eval ⟨over Tv U,dd⟩ (.tmp 25)=_:=eval_new (t:=Tv) (d:=dd) e0 (by show 25<Tv.size;omega)
    refine tbw_yield (v:=.int .i64 er) (bveR_ext A n c pn key dk nn er ps) hT ho hd (wanted_plain rfl) rfl (by decide) (by decide) ?_ (Ext.refl _) rfl
    generalize Act.eval ⟨over Tv U,dd⟩=ev at *
    simp [execOp,go_sem,v0]
   | 9,ho,hlv,hd =>
    obtain rfl:=Option.some.inj ho
    obtain ⟨W,e0,hW⟩:=hT.facts 6 (by decide) (dep hd 6 (by kernel_rfl)) (fun c e=>by cases e)
    have v0:Act.eval ⟨over Tv U,dd⟩ (.tmp 31)=_:=eval_new (t:=Tv) (d:=dd) e0 (by show 31<Tv.size;omega)
    refine tbw_yield (v:=.slice W.1 pn W.2) (bveR_ext A n c pn key dk nn er ps) hT ho hd (wanted_plain rfl) rfl (by decide) (by decide) ?_ (Ext.refl _) ⟨W,rfl,hW⟩
    generalize Act.eval ⟨over Tv U,dd⟩=ev at *
    simp [execOp,go_sem,v0]
   | 10,ho,hlv,hd =>
    obtain rfl:=Option.some.inj ho
    have f0:U 32=some (.int .u64 nn):=hT.facts 7 (by decide) (dep hd 7 (by kernel_rfl)) (fun c e=>by cases e)
    have v0:Act.eval ⟨over Tv U,dd⟩ (.tmp 32)=_:=eval_new (t:=Tv) (d:=dd) f0 (by show 32<Tv.size;omega)
    refine tbw_yield (v:=.int .u64 nn) (bveR_ext A n c pn key dk nn er ps) hT ho hd (wanted_plain rfl) rfl (by decide) (by decide) ?_ (Ext.refl _) rfl
    generalize Act.eval ⟨over Tv U,dd⟩=ev at *
    simp [execOp,go_sem,v0]
   | 11,ho,hlv,hd =>
    obtain rfl:=Option.some.inj ho
    have f0:U 33=some (.int .i64 er):=hT.facts 8 (by decide) (dep hd 8 (by kernel_rfl)) (fun c e=>by cases e)
    have v0:Act.eval ⟨over Tv U,dd⟩ (.tmp 33)=_:=eval_new (t:=Tv) (d:=dd) f0 (by show 33<Tv.size;omega)
    refine tbw_yield (v:=.int .i64 er) (bveR_ext A n c pn key dk nn er ps) hT ho hd (wanted_plain rfl) rfl (by decide) (by decide) ?_ (Ext.refl _) rfl
    generalize Act.eval ⟨over Tv U,dd⟩=ev at *
    simp [execOp,go_sem,v0]
   | i+12,ho,_,_=>exact absurd ho (by simp)
 intro U wz hex hout hfin
 obtain ⟨W11,f11,hW11⟩:=hfin 9 (by decide) rfl
 change U 11=_ at f11
 have f10:U 10=some (.int .i64 er):=hfin 11 (by decide) rfl
 have XE:=Hi hex
 clear hex hfin
 rw [over_list]
 simp (disch:=decide) only [overL,Nat.reduceAdd,hout,Option.getD_none]
 rw [f11,f10]
 simp only [Option.getD_some]
 clear hout f11 f10
 have HX2:=Hi (HX.out.trans XE.out)
 by_cases h0:er=0
 case neg =>
  have HF:=Hi (Bu.opnR_seal (key:=key) HE0.out HEO.out h0)
  have HS:=Hi (Bu.opnS_bad HF.out h0)
  have t1:(er != 0)=true:=by rw [bne_iff_ne];exact h0
  clear h0
  go_wp2
  go_ret3
  exact ⟨RetO.bad HF.out HS.out _,HX2.out⟩
 subst h0
 obtain ⟨hp1,hp2,hp3⟩:=HPS.out rfl
 have HOR:Hid (Bu.opnR key s=Bu.contE (m:Int) rh ps):=Hi (by rw [Bu.opnR_cont HE0.out HEO.out,HM.out,HRH.out,hp1])
 have HPB:=Hi hp3
 clear hp1 hp3 HPS
 obtain ⟨hWs,hWc⟩:=hW11
 obtain ⟨A2,c2⟩:=W11
 have HKD:=Hi (bdecode_any A2 c2 ps HPN.out hWc HPB.out hp2 m hm60 wz hWs (fun w' hx=>HG.out w' (HX2.out.trans hx)))
 obtain ⟨r,hr⟩:∃ r,Bu.decI (m:Int) ps=r:=⟨_,rfl⟩
 rw [hr] at HKD
 obtain ⟨de,dl⟩:=r
 have HD:=Hi hr
 clear hWs hWc hr
 go_wp2_with fail
 with_reducible refine HKD.out.mono ?_
 rintro e w2 ⟨⟨A3,c3,ys,rfl,hys,hsl⟩,hx2⟩
 have HX3:=Hi (HX2.out.trans hx2)
 have hys:Rt.its ys=dl:=hys
 have HYS:=Hi hys
 have HSL:=Hi hsl
 have hyl:ys.length=dl.length:=by rw [← hys,Rt.its_len]
 have HYL:=Hi hyl
 dsimp only
 clear hx2 hys hsl hyl HKD
 by_cases h0:de=0
 case neg =>
  have HF:Hid (Bu.opnR key s=(de,[])):=Hi (HOR.out.trans (Bu.contE_bad HD.out h0))
  have HS:=Hi (Bu.opnS_bad HF.out h0)
  have t1:(de != 0)=true:=by rw [bne_iff_ne];exact h0
  clear h0
  go_wp2
  go_ret3
  exact ⟨RetO.bad HF.out HS.out _,HX3.out⟩
 subst h0
 have hdl:=Bu.decI_len HD.out
 rw [hdl]
 have HKR:=Hi (broot_any A3 c3 ys (HYL.out.trans hdl) w2 HSL.out (by omega) (fun w' hx=>HG.out w' (HX3.out.trans hx)))
 rw [HYS.out] at HKR
 obtain ⟨ce,hce⟩:∃ q,Rs.chkI dl=q:=⟨_,rfl⟩
 obtain ⟨rv,hrv⟩:∃ q,Bu.rootV dl=q:=⟨_,rfl⟩
 rw [hce,hrv] at HKR
 have HCE:=Hi hce
 have HRV:=Hi hrv
 clear hce hrv
 by_cases h1:ce=0
 case neg =>
  have HF:Hid (Bu.opnR key s=(ce,[])):=Hi (HOR.out.trans (Bu.contE_chk HD.out HCE.out h1))
  have HS:=Hi (Bu.opnS_bad HF.out h1)
  have t1:(ce != 0)=true:=by rw [bne_iff_ne];exact h1
  rw [if_neg h1] at HKR
  clear h1
  go_wp2_with fail
  with_reducible refine HKR.out.mono ?_
  rintro e w7 ⟨rfl,hx7⟩
  have HX7:=Hi (HX3.out.trans hx7)
  clear hx7
  go_wp2
  go_ret3
  exact ⟨RetO.bad HF.out HS.out _,HX7.out⟩
 subst h1
 rw [if_pos rfl] at HKR
 by_cases h2:rv=rh
 case neg =>
  have HF:Hid (Bu.opnR key s=(12,[])):=Hi (HOR.out.trans (Bu.contE_root HD.out HCE.out (by rw [HRV.out];exact h2)))
  have HS:=Hi (Bu.opnS_bad HF.out (by decide))
  have t1:(rv != rh)=true:=by rw [bne_iff_ne];exact h2
  clear h2
  go_wp2_with fail
  with_reducible refine HKR.out.mono ?_
  rintro e w7 ⟨rfl,hx7⟩
  have HX7:=Hi (HX3.out.trans hx7)
  clear hx7
  go_wp2
  go_ret3
  exact ⟨RetO.bad HF.out HS.out _,HX7.out⟩
 have HF:Hid (Bu.opnR key s=(0,dl)):=Hi (HOR.out.trans (Bu.contE_ok HD.out HCE.out (by rw [HRV.out];exact h2)))
 have HS:Hid (Bu.opnS key s=sh):=Hi ((Bu.opnS_ok HF.out).trans HSH.out)
 have t1:(rv != rh)=false:=by rw [h2];simp
 clear h2
 go_wp2_with fail
 with_reducible refine HKR.out.mono ?_
 rintro e w7 ⟨rfl,hx7⟩
 have HX7:=Hi (HX3.out.trans hx7)
 have HSL7:=Hi (HSL.out.ext hx7)
 have HDL:=Hi hdl
 clear hx7
 go_wp2
 go_ret3
 refine ⟨⟨A3,c3,ys,?_,by rw [HF.out];exact HYS.out,HSL7.out⟩,HX7.out⟩
 rw [HF.out,HS.out]
 show _=Ending.returned (.tuple #[.int .i64 sh,.slice _ dl.length _,.int .i64 0])
 rw [HDL.out]
 rfl
set_option maxRecDepth 100000 in
set_option maxHeartbeats 12800000 in
theorem bcheck2_any (A : Option Addr) (c : Nat) (s : List Int) {n : Nat} (hn : s.length = n) (hc : n ≤ c) (hB : Bu.Byt s) (hl : n ≤ 9223372036854775807) (A2 : Option Addr) (c2 : Nat) (xs : List Rt.ItL) {k : Nat} (hk : xs.length = k) (hl2 : k ≤ 9223372036854775807) {v : Int} (hv : Bu.chkR s (Rt.its xs) = v) (w : World) (h : SlU w A s) (h2 : Rt.SlIt w A2 xs) (hg : ∀ w', Ext w w' → Gm w') :
    Calls Tryz.prog 19 #[.slice A n c,.slice A2 k c2] w fun e w'=>e=.returned (.int .i64 v)∧Ext w w':=by
 have HK:=Hi (head_any A c s hn hc hB hl w h)
 have HR:=Hi (fun W (hx:Ext w W)=>broot_any A2 c2 xs hk W (h2.ext hx) hl2 (fun w' hx'=>hg w' (hx.trans hx')))
 obtain ⟨er0,her0⟩:∃ q,Bu.headE s=q:=⟨_,rfl⟩
 obtain ⟨er1,her1⟩:∃ q,Rs.chkI (Rt.its xs)=q:=⟨_,rfl⟩
 have hle:(Rt.its xs).length=k:=by rw [Rt.its_len,hk]
 unfold Bu.chkR at hv
 rw [her0,her1,hle] at hv
 unfold Bu.hdS Bu.hdN Bu.hdR at HK
 rw [her0] at HK
 rw [her1] at HR
 generalize Bu.rootV (Rt.its xs)=rv at *
 generalize Bu.headS s=hs at *
 generalize Bu.headN s=hnn at *
 generalize Bu.headR s=hr at *
 clear her0 her1 hle h h2 hB hk hn hg
 by_cases h0:er0=0
 case neg =>
  rw [if_pos h0] at hv
  have t1:(er0 != 0)=true:=by rw [bne_iff_ne];exact h0
  rw [if_neg h0,if_neg h0,if_neg h0] at HK
  clear h0
  go_enter Tryz.func19,Tryz.ntmps19
  go_wp2_with fail
  with_reducible refine HK.out.mono ?_
  rintro e w1 ⟨rfl,hx1⟩
  go_wp2
  go_ret
  first | exact ⟨ret_int hv,hx1⟩ | exact ⟨rfl,hx1⟩
 subst h0
 rw [if_neg (by simp)] at hv
 rw [if_pos rfl,if_pos rfl,if_pos rfl] at HK
 by_cases h1:er1=0
 case neg =>
  rw [if_pos h1] at hv
  have t1:(er1 != 0)=true:=by rw [bne_iff_ne];exact h1
  simp only [if_neg h1] at HR
  clear h1
  go_enter Tryz.func19,Tryz.ntmps19
  go_wp2_with fail
  with_reducible refine HK.out.mono ?_
  rintro e w1 ⟨rfl,hx1⟩
  go_wp2_with fail
  with_reducible refine (HR.out w1 hx1).mono ?_
  rintro e w2 ⟨rfl,hx2⟩
  go_wp2
  go_ret
  first | exact ⟨ret_int hv,hx1.trans hx2⟩ | exact ⟨rfl,hx1.trans hx2⟩
 subst h1
 rw [if_neg (by simp)] at hv
 simp only [if_true] at HR
 by_cases h2:(k:Int)=hnn
 case neg =>
  rw [if_pos h2] at hv
  have t1:((k:Int) != hnn)=true:=by rw [bne_iff_ne];exact h2
  clear h2
  go_enter Tryz.func19,Tryz.ntmps19
  go_wp2_with fail
  with_reducible refine HK.out.mono ?_
  rintro e w1 ⟨rfl,hx1⟩
  go_wp2_with fail
  with_reducible refine (HR.out w1 hx1).mono ?_
  rintro e w2 ⟨rfl,hx2⟩
  go_wp2
  go_ret
  first | exact ⟨ret_int hv,hx1.trans hx2⟩ | exact ⟨rfl,hx1.trans hx2⟩
 rw [if_neg (by rw [h2];simp)] at hv
 have t1:((k:Int) != hnn)=false:=by rw [h2];simp
 clear h2
 by_cases h3:rv=hr
 case neg =>
  rw [if_pos h3] at hv
  have t2:(rv != hr)=true:=by rw [bne_iff_ne];exact h3
  clear h3
  go_enter Tryz.func19,Tryz.ntmps19
  go_wp2_with fail
  with_reducible refine HK.out.mono ?_
  rintro e w1 ⟨rfl,hx1⟩
  go_wp2_with fail
  with_reducible refine (HR.out w1 hx1).mono ?_
  rintro e w2 ⟨rfl,hx2⟩
  go_wp2
  go_ret
  first | exact ⟨ret_int hv,hx1.trans hx2⟩ | exact ⟨rfl,hx1.trans hx2⟩
 rw [if_neg (by rw [h3];simp)] at hv
 have t2:(rv != hr)=false:=by rw [h3];simp
 clear h3
 go_enter Tryz.func19,Tryz.ntmps19
 go_wp2_with fail
 with_reducible refine HK.out.mono ?_
 rintro e w1 ⟨rfl,hx1⟩
 go_wp2_with fail
 with_reducible refine (HR.out w1 hx1).mono ?_
 rintro e w2 ⟨rfl,hx2⟩
 go_wp2
 go_ret
 first | exact ⟨ret_int hv,hx1.trans hx2⟩ | exact ⟨rfl,hx1.trans hx2⟩
end Go.Proofs.YtnlenappjjlbjaaGreatDoor
