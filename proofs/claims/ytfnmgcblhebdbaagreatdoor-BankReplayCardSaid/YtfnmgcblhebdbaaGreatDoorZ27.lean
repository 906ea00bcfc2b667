/- Rows of pairs; slices.Compact at pairs: a contract. Conditions: those of each theorem. -/
import Derived.Test.YtfnmgcblhebdbaaGreatDoorZ26
import Derived.Lib.SliceRun
import Derived.Lib.SmallJoins
namespace Go.Proofs.YtfnmgcblhebdbaaGreatDoor
set_option maxRecDepth 100000
set_option maxHeartbeats 3200000
open Go.RowKit Go.Sort
namespace Bk
namespace En
def ddS (out:List (Int×Int))(p:Int×Int):List (Int×Int):=if out.getLast?=some p then out else out ++ [p]
def dd (l:List (Int×Int)):List (Int×Int):=l.foldl ddS []
theorem dd_snoc(l:List (Int×Int))(p:Int×Int):dd (l ++ [p])=ddS (dd l) p:=by unfold dd;rw[List.foldl_append];rfl
theorem ddS_last(out:List (Int×Int))(p:Int×Int):(ddS out p).getLast?=some p:=by
 unfold ddS;split
 · assumption
 · simp
theorem dd_take{l:List (Int×Int)}{k:Nat}{p:Int×Int}(h:l[k]?=some p):dd (l.take (k+1))=ddS (dd (l.take k)) p:=by rw[List.take_add_one,h];exact dd_snoc _ _
theorem dd_last{l:List (Int×Int)}{k:Nat}{p:Int×Int}(h:l[k]?=some p):(dd (l.take (k+1))).getLast?=some p:=by rw[dd_take h];exact ddS_last _ _
theorem ddS_same{out:List (Int×Int)}{p:Int×Int}(h:out.getLast?=some p):ddS out p=out:=by unfold ddS;rw[if_pos h]
theorem ddS_new{out:List (Int×Int)}{p q:Int×Int}(h:out.getLast?=some q)(hne:p≠q):ddS out p=out ++ [p]:=by unfold ddS;rw[h,if_neg];intro e;injection e with e;exact hne e.symm
theorem dd_len(l:List (Int×Int)):(dd l).length≤l.length:=by
 suffices h:∀ (l out:List (Int×Int)),(l.foldl ddS out).length≤out.length+l.length by have:=h l [];simpa[dd]using this
 intro l
 induction l with
 | nil=>intro out;simp
 | cons p l ih =>
  intro out;rw[List.foldl_cons];refine Nat.le_trans (ih _) ?_;have:(ddS out p).length≤out.length+1:=by
   unfold ddS;split
   · omega
   · simp
  simp;omega
def RowN (z:Nat)(w:World)(g:Nat)(ys:List (Int×Int)):Prop:=(∃ cur,w.heap[g]?=some (.cells cur 80 (0,0))∧cur.size=z)∧∀ (i:Nat) (p:Int×Int),ys[i]?=some p→∀ (j:Nat) (v:Value),(pcl p)[j]?=some v→w.cell? ⟨g,i*2+j,none⟩=some v∧w.frozen? ⟨g,i*2+j,none⟩=false
def OwnN (c:Nat)(W w:World)(A:Option Addr)(ys:List (Int×Int)):Prop:=(A=none∧c=0∧ys=[])∨∃ g,A=some ⟨g,0,none⟩∧W.heap.size≤g∧RowN (c*2) w g ys
theorem OwnN.sl{c:Nat}{W w:World}{A:Option Addr}{ys:List (Int×Int)}(h:OwnN c W w A ys):Sl w 2 A (ys.map pcl):=by
 rcases h with ⟨-,-,rfl⟩ | ⟨g,rfl,-,⟨cur,hg,-⟩,hr⟩
 · exact Or.inl rfl
 · refine Or.inr ⟨g,0,rfl,blk_lt hg,fun i cs hi j v hv=>?_⟩;rw[List.getElem?_map]at hi;obtain⟨p,hp,rfl⟩:=Option.map_eq_some_iff.1 hi;rw[Nat.zero_add];exact(hr i p hp j v hv).1
theorem RowN.ext{z:Nat}{w w':World}{g:Nat}{ys:List (Int×Int)}(h:RowN z w g ys)(he:Ext w w'):RowN z w' g ys:=by obtain⟨hc,hf⟩:=he.cells;have hl:g<w.heap.size:=h.1.elim fun cur hb=>blk_lt hb.1;refine⟨h.1.elim fun cur hb=>⟨cur,he.blockAt hb.1,hb.2⟩,fun i p hp j v hv=>?_⟩;rw[hc _ _ hl,hf _ _ hl];exact h.2 i p hp j v hv
theorem RowN.at_{z:Nat}{w:World}{g:Nat}{ys:List (Int×Int)}(h:RowN z w g ys){i:Nat}{p:Int×Int}(hp:ys[i]?=some p){o:Nat}(ho:i*2=o) :
    w.cell? ⟨g,o,none⟩=some (.int .i64 p.1)∧w.cell? ⟨g,o+1,none⟩=some (.int .i64 p.2):=by
 subst ho;exact⟨(h.2 i p hp 0 _ rfl).1,(h.2 i p hp 1 _ rfl).1⟩
theorem RowN.free{z:Nat}{w:World}{g:Nat}{ys:List (Int×Int)}(h:RowN z w g ys){i:Nat}{p:Int×Int}(hp:ys[i]?=some p){o:Nat}(ho:i*2=o) :
    w.frozen? ⟨g,o,none⟩=false∧w.frozen? ⟨g,o+1,none⟩=false:=by
 subst ho;exact⟨(h.2 i p hp 0 _ rfl).2,(h.2 i p hp 1 _ rfl).2⟩
theorem RowN.set{z:Nat}{w:World}{g:Nat}{ys:List (Int×Int)}(h:RowN z w g ys){K:Nat}(hK:K<ys.length)(p:Int×Int):RowN z (w.setCells g (K*2) (pcl p)) g (ys.set K p):=by
 refine⟨h.1.elim fun cur hb=>(setCells_blk (g:=g) _ _ w cur hb.1).imp fun _ h=>⟨h.1,h.2.trans hb.2⟩,fun i q hq j v hv=>?_⟩;have hj:j<2:=by
  rcases Nat.lt_or_ge j 2 with e | e
  · exact e
  · rw[List.getElem?_eq_none (by simpa[pcl]using e)]at hv;cases hv
 rw[World.frozen?_setCells];by_cases hi:i=K
 · subst hi;rw[List.getElem?_set_self hK]at hq;injection hq with hq;subst hq;have hyi:=List.getElem?_eq_getElem hK;have hfr:∀ r,r<2→∃ u,(pcl ys[i])[r]?=some u:=fun r hr=>⟨_,List.getElem?_eq_getElem (by simpa[pcl]using hr)⟩;have hin:=World.cell?_setCells_in g (pcl p) (i*2) w (fun r hr=>by obtain⟨u,hu⟩:=hfr r (by simpa[pcl]using hr);rw[(h.2 i _ hyi r u hu).1];rfl) j (by simpa[pcl]using hj)
   obtain⟨u,hu⟩:=hfr j hj;refine⟨?_,(h.2 i _ hyi j u hu).2⟩;rw[hin];rw[List.getElem?_eq_getElem (by simpa[pcl]using hj)]at hv;exact hv
 · rw[List.getElem?_set_ne (by omega)]at hq;have hk:=h.2 i q hq j v hv;refine⟨?_,hk.2⟩;rw[World.cell?_setCells_out g (pcl p) (K*2) w _ (fun _ _=>?_)]
   · exact hk.1
   · simp only[pcl,List.length_cons,List.length_nil];omega
theorem RowN.take{z:Nat}{w:World}{g:Nat}{ys:List (Int×Int)}(h:RowN z w g ys)(K:Nat):RowN z w g (ys.take K) :=
 ⟨h.1,fun i p hp j v hv=>h.2 i p (by
  rw[List.getElem?_take]at hp;split at hp
  · exact hp
  · cases hp) j v hv⟩
theorem clear_row{z:Nat}{W w:World}{g:Nat}(hg:W.heap.size≤g){ys:List (Int×Int)}(h:RowN z w g ys)(hW:Ext W w){n:Nat}(hn:ys.length=n){K:Nat}(hK:K<n) :
    ∃ wZ,(∀ cc,(Builtin.clear_ #[29] 0 #[.slice (some ⟨g,K*2,none⟩) (n-K) cc]).run Tryz.prog w=.ok (.tuple #[]) wZ)∧RowN z wZ g (ys.take K)∧Ext W wZ:=by
 have hv:∀ w,(zeroValue 80).run Tryz.prog w=.ok (.agg #[.int .i64 0,.int .i64 0]) w:=fun w=>Tryz.zeroValue80 w;obtain⟨m,hm⟩:∃ m,n-K=m+1:=⟨n-K-1,by omega⟩;have hl:((Builtin.zeroCells #[.int .i64 0,.int .i64 0] (m+1)).toList).length=(m+1)*2:=by simp[Builtin.zeroCells]
 have hcell:∀ j,j<(m+1)*2→(w.cell? ⟨g,K*2+0+j,none⟩).isSome=true∧w.frozen? ⟨g,K*2+0+j,none⟩=false:=fun j hj=>by
  have hi:K+j / 2<ys.length:=by omega
  have hp:=List.getElem?_eq_getElem hi;have hj4:j % 2<2:=Nat.mod_lt _ (by omega);obtain⟨u,hu⟩:∃ u,(pcl ys[K+j / 2])[j % 2]?=some u:=⟨(pcl ys[K+j / 2])[j % 2]'(by simpa[pcl]using hj4),List.getElem?_eq_getElem _⟩;have:=h.2 _ _ hp _ _ hu;rw[show(K+j / 2)*2+j % 2=K*2+0+j by omega]at this;exact⟨by rw[this.1];rfl,this.2⟩
 have hst:=run_storeCells_cells (P:=Tryz.prog) g (K*2) (Builtin.zeroCells #[.int .i64 0,.int .i64 0] (m+1)).toList 0 w (fun j hj=>(hcell j (by rw[hl]at hj;exact hj)).1) (fun j hj=>(hcell j (by rw[hl]at hj;exact hj)).2) (fun v hv=>by
  simp only[Builtin.zeroCells,Array.toList_map,List.mem_map]at hv;obtain⟨i,-,rfl⟩:=hv;have h4:i % 2<2:=Nat.mod_lt _ (by omega);have hc:i % 2=0∨i % 2=1:=by omega
  rcases hc with e | e
  all_goals
   simp[e,Value.oneCell'])
 refine⟨w.setCells g (K*2) (Builtin.zeroCells #[.int .i64 0,.int .i64 0] (m+1)).toList,fun cc=>?_,?_,Ext.setCells hg _ _ _ hW⟩
 · rw[hm];simp only[Nat.add_zero]at hst;simp[Builtin.clear_,run_underlying Tryz.underlying29,hv,Value.cells,hst]
 · refine⟨h.1.elim fun cur hb=>(setCells_blk (g:=g) _ _ w cur hb.1).imp fun _ h=>⟨h.1,h.2.trans hb.2⟩,fun i p hp j v hv=>?_⟩;have hj:j<2:=by
    rcases Nat.lt_or_ge j 2 with e | e
    · exact e
    · rw[List.getElem?_eq_none (by simpa[pcl]using e)]at hv;cases hv
   have hiK:i<K:=by
    rcases Nat.lt_or_ge i K with e | e
    · exact e
    · rw[List.getElem?_eq_none (by rw[List.length_take];omega)]at hp;cases hp
   have hk:=(h.take K).2 i p hp j v hv;rw[World.frozen?_setCells,World.cell?_setCells_out g _ (K*2) w _ (fun _ _=>Or.inl (by simp only;omega))];exact hk

theorem compact_any{W:World}(A:Option Addr)(c n:Nat)(ys:List (Int×Int))(hn:ys.length=n)(w:World)(hW:Ext W w)(h:OwnN c W w A ys)(hb:n≤1000)(hnc:n≤c)(hc:c≤maxLen) :
    Calls Tryz.prog 125 #[.slice A n c] w fun e w'=>e=.returned (.slice A (dd ys).length c)∧OwnN c W w' A (dd ys)∧Ext W w':=by
 have HN:=Hi hn;clear hn;unfold maxLen at hc;by_cases h2:n<2
 · have h2':(n:Int)<2:=(by omega);have HD:Hid (dd ys=ys):=Hi (by
    have:=HN.out
    match ys,this with
    | [],_=>rfl
    | [p],_=>rfl
    | p :: q :: l,e=>simp at e;omega)
   have H:=Hi h;clear h;go_enter Tryz.func125,Tryz.ntmps125
   go_wp2;go_ret;rw[HD.out];exact⟨by rw[HN.out];rfl,H.out,hW⟩
 · have h2':¬ (n:Int)<2:=(by omega);obtain⟨g,rfl,hg,hrow⟩:∃ g,A=some ⟨g,0,none⟩∧W.heap.size≤g∧RowN (c*2) w g ys:=by
    rcases h with h | h
    · have:=HN.out;rw[h.2.2]at this;simp at this;omega
    · exact h
   have HR:=Hi hrow;clear hrow h;go_enter Tryz.func125,Tryz.ntmps125
   go_wp2;go_loopw [3] (fun i wr=>∃ k:Nat,1≤k∧k≤n∧i=.int .i64 k∧dd (ys.take k)=ys.take k∧Ext w wr) (fun i _=>n-(intOf i).toNat)
   case atStart =>
    refine⟨1,by omega,by omega,rfl,?_,Ext.refl _⟩;have:=HN.out
    match ys,this with
    | [],e=>rfl
    | p :: l,_=>rfl
   case round =>
    obtain⟨k,hk1,hk,rfl,hdd,he⟩:=hrel;have HDD:=Hi hdd;clear hdd;by_cases hlt:k<n
    · obtain⟨p,hp⟩:∃ p,ys[k]?=some p:=⟨ys[k]'(by rw[HN.out];exact hlt),List.getElem?_eq_getElem _⟩;obtain⟨q,hq⟩:∃ q,ys[k-1]?=some q:=⟨ys[k-1]'(by rw[HN.out];omega),List.getElem?_eq_getElem _⟩;obtain⟨c0,c1⟩:=(HR.out.ext he).at_ hp rfl;obtain⟨d0,d1⟩:=(HR.out.ext he).at_ hq rfl;have HP:=Hi hp;have HQ:=Hi hq;have HL:Hid ((dd (ys.take k)).getLast?=some q):=Hi (by have:=dd_last hq;rwa [Nat.sub_add_cancel hk1]at this);clear hp hq;have ki0:(0:Int)≤(k:Int):=(by omega);have ki1:(k:Int)<(n:Int):=(by omega);have kj0:(0:Int)≤(k:Int)-1:=(by omega);have kj1:(k:Int)-1<(n:Int):=(by omega);have kj2:1≤(k:Int):=(by omega);have hwr:IntKind.i64.wrap ((k:Int)-1)=(k:Int)-1:=IntWalk.i64_in _ (by omega);have e1:((k:Int)-1).toNat=k-1:=(by omega);obtain⟨v,hv⟩:∃ v,decide (p=q)=v:=⟨_,rfl⟩;have hE:=fun w=>run_eql_par p q hv w;have HV:=Hi hv;clear hv;cases v with
      | false =>
       have hne:p≠q:=of_decide_eq_false HV.out;have HS:Hid (dd (ys.take (k+1))=ys.take (k+1)):=Hi (by rw[dd_take HP.out,ddS_new HL.out hne,HDD.out,List.take_add_one,HP.out];rfl);clear hne;go_wp2;go_quiet (fail)
       go_wp2;go_roundw;case rel=>exact⟨k+1,by omega,by omega,by go_num,HS.out,he.drewN _⟩
       case measure=>simp[intOf];omega
      | true =>
       have heq:p=q:=of_decide_eq_true HV.out;have HS:Hid (dd (ys.take (k+1))=ys.take k):=Hi (by rw[dd_take HP.out,heq,ddS_same HL.out,HDD.out]);clear heq;go_wp2;go_quiet (fail)
       go_wp2;clear c0 c1 d0 d1 hE kj0 kj1 kj2 hwr e1;obtain⟨wo,rfl⟩:∃ wo:World,wo=wr:=⟨_,rfl⟩;have hWo:Ext W (wo.drewN nq):=(hW.trans he).drewN _;have HRo:Hid (RowN (c*2) (wo.drewN nq) g ys):=Hi (HR.out.ext (he.drewN _));have hsub:((n:Int)-(k:Int))=((n-k:Nat):Int):=(by omega);go_loopw [5,3] (fun i kk wr=>∃ (k2 K:Nat) (zs:List (Int×Int)),1≤k2∧k2≤n-k∧i=.int .i64 k2∧kk=.int .i64 K∧K<k+k2∧dd (ys.take (k+k2))=zs.take K∧zs.length=n∧zs.drop (k+k2-1)=ys.drop (k+k2-1)∧RowN (c*2) wr g zs∧Ext W wr) (fun i _ _=>(n-k)-(intOf i).toNat)
       case atStart=>exact⟨1,k,ys,by omega,by omega,rfl,rfl,by omega,HS.out,HN.out,rfl,HRo.out,hWo⟩
       case round =>
        obtain⟨k2,K,zs,hk21,hk2,rfl,rfl,hK,hdz,hzl,hzd,hzr,hez⟩:=hrel;have HDZ:=Hi hdz;have HZL:=Hi hzl;have HZD:=Hi hzd;have HZR:=Hi hzr;clear hdz hzl hzd hzr;by_cases hlt2:k2<n-k
        · obtain⟨p2,hp2⟩:∃ p2,ys[k+k2]?=some p2:=⟨ys[k+k2]'(by rw[HN.out];omega),List.getElem?_eq_getElem _⟩;obtain⟨q2,hq2⟩:∃ q2,ys[k+k2-1]?=some q2:=⟨ys[k+k2-1]'(by rw[HN.out];omega),List.getElem?_eq_getElem _⟩;have hzq:zs[k+k2-1]?=some q2:=by have e:=congrArg (fun l=>l[0]?) HZD.out;simp only[List.getElem?_drop,Nat.add_zero]at e;rw[e];exact hq2
          have hzp:zs[k+k2]?=some p2:=by have e:=congrArg (fun l=>l[1]?) HZD.out;simp only[List.getElem?_drop,Nat.sub_add_cancel (show 1≤k+k2 by omega)]at e;rw[e];exact hp2
          obtain⟨zK,hzK⟩:∃ zK,zs[K]?=some zK:=⟨zs[K]'(by rw[HZL.out];omega),List.getElem?_eq_getElem _⟩;obtain⟨c0,c1⟩:=HZR.out.at_ hzp (o:=k*2+k2*2) (by omega);obtain⟨d0,d1⟩:=HZR.out.at_ hzq (o:=k*2+(k2-1)*2) (by omega);obtain⟨b0,b1⟩:=HZR.out.at_ hzK rfl;obtain⟨f0,f1⟩:=HZR.out.free hzK rfl;have HL2:Hid ((dd (ys.take (k+k2))).getLast?=some q2):=Hi (by have:=dd_last hq2;rwa [Nat.sub_add_cancel (show 1≤k+k2 by omega)]at this);have HP2:=Hi hp2;have HZK:=Hi hzK;clear hp2 hq2 hzq hzp hzK;have ji0:(0:Int)≤(k2:Int):=(by omega);have ji1:(k2:Int)<((n-k:Nat):Int):=(by omega);have jj0:(0:Int)≤(k2:Int)-1:=(by omega);have jj1:(k2:Int)-1<((n-k:Nat):Int):=(by omega);have jj2:1≤(k2:Int):=(by omega);have jk0:(0:Int)≤(K:Int):=(by omega);have jk1:(K:Int)<(n:Int):=(by omega);have hwr:IntKind.i64.wrap ((k2:Int)-1)=(k2:Int)-1:=IntWalk.i64_in _ (by omega);have e1:((k2:Int)-1).toNat=k2-1:=(by omega);obtain⟨v,hv⟩:∃ v,(!decide (p2=q2))=v:=⟨_,rfl⟩;have hE:=fun w=>run_neq_par p2 q2 hv w;have HV2:=Hi hv;clear hv;cases v with
          | false =>
           have heq:p2=q2:=by have:=HV2.out;simpa using this
           have HS2:Hid (dd (ys.take (k+(k2+1)))=zs.take K):=Hi (by rw[← Nat.add_assoc,dd_take HP2.out,heq,ddS_same HL2.out,HDZ.out]);clear heq;go_wp2;go_quiet (fail)
           go_wp2;go_roundw;case rel=>
            refine⟨k2+1,K,zs,by omega,by omega,by go_num,rfl,by omega,HS2.out,HZL.out,?_,HZR.out.ext ((Ext.refl _).drewN _),hez.drewN _⟩;have e:=congrArg (List.drop 1) HZD.out;rw[List.drop_drop,List.drop_drop]at e;rw[show k+(k2+1)-1=k+k2-1+1 by omega];exact e
           case measure=>simp[intOf];omega
          | true =>
           have hne:p2≠q2:=by have:=HV2.out;simpa using this
           have HS2:Hid (dd (ys.take (k+(k2+1)))=zs.take K ++ [p2]):=Hi (by rw[← Nat.add_assoc,dd_take HP2.out,ddS_new HL2.out hne,HDZ.out]);clear hne;go_wp2;go_quiet (fail)
           go_wp2;go_roundw;case rel=>
            have hz:=HZL.out;refine⟨k2+1,K+1,zs.set K p2,by omega,by omega,by go_num,by go_num,by omega,?_,by rw[List.length_set];exact HZL.out,?_,?_,?_⟩
            · rw[HS2.out,List.take_add_one,List.take_set_of_le (Nat.le_refl _),List.getElem?_set_self (by omega)];rfl
            · have e:=congrArg (List.drop 1) HZD.out;rw[List.drop_drop,List.drop_drop]at e;rw[show k+(k2+1)-1=k+k2-1+1 by omega,List.drop_set_of_lt (by omega)];exact e
            · exact RowN.set (HZR.out.ext ((Ext.refl _).drewN _)) (by omega) p2
            · exact Ext.setCells hg (pcl p2) (K*2) _ (hez.drewN _)
           case measure=>simp[intOf];omega
        · have hKn:K<n:=(by omega);obtain⟨wZ,hcl,hZ1,hZ2⟩:=clear_row hg HZR.out hez HZL.out hKn;have HZ1:=Hi hZ1;clear hZ1;have HF:Hid (dd ys=zs.take K):=Hi (by have:=HDZ.out;rwa [List.take_of_length_le (by rw[HN.out];omega)]at this);have jk0:(0:Int)≤(K:Int):=(by omega);have jk1:(K:Int)<(n:Int):=(by omega);have hKc:K≤c:=(by omega);go_wp2;go_ret;rw[HF.out];refine⟨?_,Or.inr ⟨g,rfl,hg,HZ1.out⟩,hZ2⟩;have hzz:=HZL.out;rw[List.length_take,Nat.min_eq_left (by omega)];rfl
    · have HF:Hid (dd ys=ys):=Hi (by have:=HDD.out;rwa [List.take_of_length_le (by rw[HN.out];omega)]at this);go_wp2;go_ret;rw[HF.out];exact⟨by rw[HN.out];rfl,Or.inr ⟨g,rfl,hg,HR.out.ext he⟩,hW.trans he⟩
end En
end Bk
set_option maxRecDepth 100000
set_option maxHeartbeats 12800000
open Go.RowKit Go.Sort
namespace Bk
namespace En
theorem gone_any(p t:Int×Int)(q:Nat){v:Bool}(hv:decide (p=t)=v)(w:World)(h0:w.cell? ⟨q,0,none⟩=some (.int .i64 t.1))(h1:w.cell? ⟨q,1,none⟩=some (.int .i64 t.2)) :
    Calls Tryz.prog 114 #[.agg #[.int .i64 p.1,.int .i64 p.2],.pointer (some ⟨q,0,none⟩)] w fun e w'=>e=.returned (.bool v)∧Ext w w':=by
 have XA:Hid (Ext w (w.alloc (.cells #[.int .i64 p.1,.int .i64 p.2] 80))):=Hi ((Ext.refl _).alloc _);have d0:=XA.out.keep h0;have d1:=XA.out.keep h1;have hE:=fun w=>run_eql_par p t hv w;have c0:(w.alloc (.cells #[.int .i64 p.1,.int .i64 p.2] 80)).cell? ⟨w.heap.size,0,none⟩=some (.int .i64 p.1):=World.cell?_alloc_new _ _ _ _;have c1:(w.alloc (.cells #[.int .i64 p.1,.int .i64 p.2] 80)).cell? ⟨w.heap.size,1,none⟩=some (.int .i64 p.2):=World.cell?_alloc_new _ _ _ _;clear hv h0 h1;go_enter Tryz.func114,Tryz.ntmps114
 go_wp2;go_ret;exact⟨rfl,XA.out⟩
def ixN (o:Option Nat):Int:=match o with | some k=>(k:Int) | none=>-1
theorem ixE_any(A:Option Addr)(c n:Nat)(l:List (Int×Int))(t:Int×Int)(q:Nat)(hn:l.length=n)(w:World)(h:Sl w 2 A (l.map pcl))(hn63:n≤9223372036854775807)(h0:w.cell? ⟨q,0,none⟩=some (.int .i64 t.1))(h1:w.cell? ⟨q,1,none⟩=some (.int .i64 t.2)) :
    Calls Tryz.prog 141 #[.slice A n c,.func (.func 114) #[] #[.pointer (some ⟨q,0,none⟩)]] w fun e w'=>(∃ o:Option Nat,e=.returned (.int .i64 (ixN o))∧(o=none→∀ x∈l,x≠t)∧∀ k,o=some k→l[k]?=some t∧∀ (j:Nat) (x:Int×Int),j<k→l[j]?=some x→x≠t)∧Ext w w':=by
 have H:=Hi h;have HN:=Hi hn;have HQ0:=Hi h0;have HQ1:=Hi h1;clear h hn h0 h1;go_enter Tryz.func141,Tryz.ntmps141
 go_wp2;go_loopw [8] (fun i wr=>∃ k:Nat,k≤n∧i=.int .i64 k∧Hid (∀ (j:Nat) (x:Int×Int),j<k→l[j]?=some x→x≠t)∧Hid (Ext w wr)) (fun i _=>n-(intOf i).toNat)
 case atStart=>exact⟨0,by omega,rfl,Hi (fun j x hj=>by omega),Hi (Ext.refl _)⟩
 case round =>
  obtain⟨k,hk,rfl,HF,HE⟩:=hrel;by_cases hlt:k<n
  · obtain⟨x,hx⟩:∃ x,l[k]?=some x:=⟨l[k]'(by rw[HN.out];exact hlt),List.getElem?_eq_getElem _⟩;obtain⟨bb,off,rfl,hbl,hc⟩:=Sl.at_ (i:=k) (cs:=pcl x) (H.out.ext HE.out) (by simp[hx]);have HX:=Hi hx;have HC:Hid (wr.rangeAt bb (off+k*2) (#[.int .i64 x.1,.int .i64 x.2]:Array Value).toList):=Hi (fun j v hj=>by rw[Nat.add_assoc];exact hc j v hj);have ki0:(0:Int)≤(k:Int):=(by omega);have ki1:(k:Int)<(n:Int):=(by omega);have IT:Hid ((Tryz.prog.info? 80).map (·.size)=some (#[.int .i64 x.1,.int .i64 x.2]:Array Value).size):=Hi (by kernel_rfl);clear hx hc;obtain⟨u,hu⟩:∃ u,decide (x=t)=u:=⟨_,rfl⟩;have HU:=Hi hu;have K:=Hi (gone_any x t q hu wr (HE.out.keep HQ0.out) (HE.out.keep HQ1.out));clear hu;go_wp2_with (with_reducible refine wpList_load_arr rfl 80 (.tmp 14) rfl bb (off+k*2) (by with_unfolding_all rfl) #[.int .i64 x.1,.int .i64 x.2] _ HC.out Tryz.underlying80 rfl IT.out ?_)
    with_reducible refine K.out.mono ?_
    rintro e w2 ⟨rfl,hb⟩;have HB:=Hi (HE.out.trans hb);clear hb;cases u with
    | true =>
     go_wp2;go_ret;exact⟨⟨some k,rfl,fun h=>by(cases h),fun k' hk'=>by injection hk' with hk';subst hk';exact⟨by rw[HX.out,of_decide_eq_true HU.out],HF.out⟩⟩,HB.out⟩
    | false =>
     go_wp2;go_roundw;case rel=>exact⟨k+1,by omega,by go_num,Hi (fun j y hj hy=>by
      rcases Nat.lt_or_ge j k with h1 | h1
      · exact HF.out j y h1 hy
      · obtain rfl:j=k:=by omega
        rw[HX.out]at hy;injection hy with hy;rw[← hy];exact of_decide_eq_false HU.out),HB⟩
     case measure=>simp[intOf];omega
  · obtain rfl:k=n:=by omega
    go_wp2;go_ret;exact⟨⟨none,rfl,fun _ x hx=>by obtain⟨j,hj⟩:=List.getElem?_of_mem hx;exact HF.out j x (by rw[← HN.out];exact(List.getElem?_eq_some_iff.1 hj).1) hj,fun k hk=>by cases hk⟩,HE.out⟩
def delE (l:List (Int×Int))(t:Int×Int):List (Int×Int):=l.filter fun x=>!decide (x=t)
theorem delE_all{l:List (Int×Int)}{t:Int×Int}(h:∀ x∈l,x≠t):delE l t=l:=by unfold delE;rw[List.filter_eq_self];intro x hx;simp[h x hx]
theorem delE_pre{l:List (Int×Int)}{t:Int×Int}{k:Nat}(hk:l[k]?=some t)(h:∀ (j:Nat) (x:Int×Int),j<k→l[j]?=some x→x≠t):delE (l.take (k+1)) t=l.take k:=by
 unfold delE;rw[List.take_add_one,hk,List.filter_append,List.filter_eq_self.2 (fun x hx=>by
  obtain⟨j,hj⟩:=List.getElem?_of_mem hx;rw[List.getElem?_take]at hj;split at hj
  · rename_i hlt
    simp[h j x hlt hj]
  · cases hj)]
 simp
theorem delE_next{l:List (Int×Int)}{t x:Int×Int}{k:Nat}(hk:l[k]?=some x):delE (l.take (k+1)) t=delE (l.take k) t ++ if x=t then[]else[x]:=by unfold delE;rw[List.take_add_one,hk,List.filter_append];by_cases h:x=t <;> simp[h]
theorem del_any{W:World}(A:Option Addr)(c n:Nat)(ys:List (Int×Int))(t:Int×Int)(q:Nat)(hn:ys.length=n)(w:World)(hW:Ext W w)(h:OwnN c W w A ys)(hb:n≤1000)(hnc:n≤c)(hc:c≤maxLen)(h0:W.cell? ⟨q,0,none⟩=some (.int .i64 t.1))(h1:W.cell? ⟨q,1,none⟩=some (.int .i64 t.2)) :
    Calls Tryz.prog 113 #[.slice A n c,.func (.func 114) #[] #[.pointer (some ⟨q,0,none⟩)]] w fun e w'=>e=.returned (.slice A (delE ys t).length c)∧OwnN c W w' A (delE ys t)∧Ext W w':=by
 have HN:=Hi hn;have H:=Hi h;have HW:=Hi hW;have HQ0:=Hi h0;have HQ1:=Hi h1;unfold maxLen at hc;have KI:=Hi (ixE_any A c n ys t q hn w h.sl (by omega) (hW.keep h0) (hW.keep h1));clear h hn h0 h1 hW;go_enter Tryz.func113,Tryz.ntmps113
 go_wp2_with fail
 with_reducible refine KI.out.mono ?_
 rintro e w1 ⟨⟨oo,rfl,ho1,ho2⟩,hb1⟩;have HO1:=Hi ho1;have HO2:=Hi ho2;have HX1:=Hi hb1;clear ho1 ho2 hb1 KI;cases oo with
 | none =>
  have HD:Hid (delE ys t=ys):=Hi (delE_all (HO1.out rfl));simp only[ixN];go_wp2;go_ret;refine⟨by rw[HD.out,HN.out];rfl,?_,HW.out.trans HX1.out⟩;rw[HD.out];rcases H.out with h | ⟨g,h1,h2,h3⟩
  · exact Or.inl h
  · exact Or.inr ⟨g,h1,h2,h3.ext HX1.out⟩
 | some i0 =>
 obtain⟨hi0,hpre⟩:=HO2.out i0 rfl;have HI0:=Hi hi0;have HPRE:=Hi hpre;have hi0n:i0<n:=by rw[← HN.out];exact(List.getElem?_eq_some_iff.1 hi0).1
 obtain⟨g,rfl,hg,hrow⟩:∃ g,A=some ⟨g,0,none⟩∧W.heap.size≤g∧RowN (c*2) w g ys:=by
  rcases H.out with h | h
  · rw[h.2.2]at hi0;cases hi0
  · exact h
 have HR:=Hi (hrow.ext HX1.out);have HX2:=Hi (HW.out.trans HX1.out);have hm1:((i0:Int) == -1)=false:=by rw[beq_eq_false_iff_ne];omega
 simp only[ixN];clear hi0 hpre hrow HO1 HO2;go_wp2;go_loopw [6,5] (fun i kk wr=>∃ (k K:Nat) (zs:List (Int×Int)),K<k∧k≤n∧i=.int .i64 k∧kk=.int .i64 K∧Hid (delE (ys.take k) t=zs.take K)∧Hid (zs.length=n)∧Hid (zs.drop k=ys.drop k)∧Hid (RowN (c*2) wr g zs)∧Hid (Ext W wr)) (fun i _ _=>n-(intOf i).toNat)
 case atStart=>exact⟨i0+1,i0,ys,by omega,by omega,by go_num,rfl,Hi (delE_pre HI0.out HPRE.out),HN,Hi rfl,HR,HX2⟩
 case round =>
  obtain⟨k,K,zs,hK,hk,rfl,rfl,HD,HZL,HZD,HZR,HEZ⟩:=hrel;by_cases hlt:k<n
  · obtain⟨p,hp⟩:∃ p,ys[k]?=some p:=⟨ys[k]'(by rw[HN.out];exact hlt),List.getElem?_eq_getElem _⟩;have hzp:zs[k]?=some p:=by have e:=congrArg (fun l=>l[0]?) HZD.out;simp only[List.getElem?_drop,Nat.add_zero]at e;rw[e];exact hp
    have HP:=Hi hp;obtain⟨c0,c1⟩:=HZR.out.at_ hzp rfl;have ki0:(0:Int)≤(k:Int):=(by omega);have ki1:(k:Int)<(n:Int):=(by omega);have XA:Hid (Ext wr (wr.alloc (.cells #[.int .i64 p.1,.int .i64 p.2] 80))):=Hi ((Ext.refl _).alloc _);have v0:(wr.alloc (.cells #[.int .i64 p.1,.int .i64 p.2] 80)).cell? ⟨wr.heap.size,0,none⟩=some (.int .i64 p.1):=World.cell?_alloc_new _ _ _ _;have v1:(wr.alloc (.cells #[.int .i64 p.1,.int .i64 p.2] 80)).cell? ⟨wr.heap.size,1,none⟩=some (.int .i64 p.2):=World.cell?_alloc_new _ _ _ _;obtain⟨u,hu⟩:∃ u,decide (p=t)=u:=⟨_,rfl⟩;have HU:=Hi hu;have HXq:=Hi (HEZ.out.trans XA.out);have KG:=Hi (gone_any p t q hu (wr.alloc (.cells #[.int .i64 p.1,.int .i64 p.2] 80)) (HXq.out.keep HQ0.out) (HXq.out.keep HQ1.out));have HZD2:Hid (zs.drop (k+1)=ys.drop (k+1)):=Hi (by have e:=congrArg (List.drop 1) HZD.out;rwa [List.drop_drop,List.drop_drop]at e)
    have V0:=Hi v0;have V1:=Hi v1;clear hp hzp hu;go_wp2_with fail
    with_reducible refine KG.out.mono ?_
    rintro e w3 ⟨rfl,hb3⟩;have HX3:=Hi (XA.out.trans hb3);have HE3:=Hi (HXq.out.trans hb3);have HZ3:=Hi (HZR.out.ext HX3.out);have u0:=hb3.keep V0.out;have u1:=hb3.keep V1.out;clear hb3 c0 c1 v0 v1;cases u with
    | true =>
     have HS:Hid (delE (ys.take (k+1)) t=zs.take K):=Hi (by rw[delE_next HP.out,if_pos (of_decide_eq_true HU.out),List.append_nil,HD.out]);go_wp2;go_roundw;case rel=>exact⟨k+1,K,zs,by omega,by omega,by go_num,rfl,HS,HZL,HZD2,HZ3,HE3⟩
     case measure=>simp[intOf];omega
    | false =>
     have HS:Hid (delE (ys.take (k+1)) t=zs.take K ++ [p]):=Hi (by rw[delE_next HP.out,if_neg (of_decide_eq_false HU.out),HD.out]);obtain⟨zK,hzK⟩:∃ zK,zs[K]?=some zK:=⟨zs[K]'(by rw[HZL.out];omega),List.getElem?_eq_getElem _⟩;obtain⟨b0,b1⟩:=HZ3.out.at_ hzK rfl;obtain⟨f0,f1⟩:=HZ3.out.free hzK rfl;have jk0:(0:Int)≤(K:Int):=(by omega);have jk1:(K:Int)<(n:Int):=(by omega);clear hzK;go_wp2;go_roundw;case rel =>
      have hz:=HZL.out;refine⟨k+1,K+1,zs.set K p,by omega,by omega,by go_num,by go_num,Hi ?_,Hi (by rw[List.length_set];exact HZL.out),Hi ?_,Hi ?_,Hi ?_⟩
      · rw[HS.out,List.take_add_one,List.take_set_of_le (Nat.le_refl _),List.getElem?_set_self (by omega)];rfl
      · rw[List.drop_set_of_lt (by omega)];exact HZD2.out
      · exact HZ3.out.set (by omega) p
      · exact Ext.setCells hg (pcl p) (K*2) _ HE3.out
     case measure=>simp[intOf];omega
  · obtain rfl:k=n:=by omega
    obtain⟨wZ,hcl,hZ1,hZ2⟩:=clear_row hg HZR.out HEZ.out HZL.out hK;have HZ1:=Hi hZ1;clear hZ1;have HF:Hid (delE ys t=zs.take K):=Hi (by have:=HD.out;rwa [List.take_of_length_le (by rw[HN.out];exact Nat.le_refl _)]at this);have jk0:(0:Int)≤(K:Int):=(by omega);have jk1:(K:Int)<(k:Int):=(by omega);have hKc:K≤c:=(by omega);go_wp2;go_ret;rw[HF.out];refine⟨?_,Or.inr ⟨g,rfl,hg,HZ1.out⟩,hZ2⟩;have hzz:=HZL.out;rw[List.length_take,Nat.min_eq_left (by omega)];rfl
end En
end Bk
end Go.Proofs.YtfnmgcblhebdbaaGreatDoor
