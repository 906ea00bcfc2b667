/- The law's accepted commands, bank.Replay: contracts. Conditions: those of each theorem. -/
import Derived.Test.YtfnmgcblhebdbaaGreatDoorV45
import Derived.Test.YtfnmgcblhebdbaaGreatDoorV13
import Derived.Test.YtfnmgcblhebdbaaGreatDoorV12
import Derived.Great.Walk
namespace Go.Proofs.YtfnmgcblhebdbaaGreatDoor
open Go.RowKit
namespace Bk
theorem results_ctt{P:Program}{fn:Func}{p k1 k2:Tmp}{ty:TypeId}(h:fn.results=#[.cell p ty,.tmp k1,.tmp k2])(tmps:Array Value)(w:World)(g:Nat)(t:TypeId)(cs:Array Value)(fr:Nat×Nat)(d:TypeDesc){v1 v2:Value}
    (hp:tmps.getD p undef=.pointer (some ⟨g,0,none⟩)) (hg:w.heap[g]?=some (.cells cs t fr))
    (hu:P.underlying ty=some d) (hd:(match d with | .struct _ | .array _ _=>true | _=>false)=true) (hi:(P.info? ty).map (·.size)=some cs.size) (hk1:tmps.getD k1 undef=v1) (hk2:tmps.getD k2 undef=v2) :
    (results fn tmps).run P w=.ok (.tuple #[.agg cs,v1,v2]) w:=by
 subst hk1 hk2;have hp':tmps[p]?.getD undef=.pointer (some ⟨g,0,none⟩):=by simpa using hp
 simp[results,h,hp',asAddr,run_loadVar_row w g t ty cs fr d hg hu hd hi]
theorem info_cmd:∃ i z,Tryz.prog.info? 48=some i∧i.zero=some z∧i.size=32∧i.bytes=376∧z.cells.size=32:=by
 have h:(Tryz.prog.info? 48).map (fun i=>(i.size,i.bytes,i.zero.map (·.cells.size)))=some (32,376,some 32):=by kernel_rfl
 obtain⟨i,hi,hx⟩:=Option.map_eq_some_iff.1 h;simp only[Prod.mk.injEq]at hx;obtain⟨h1,h2,h3⟩:=hx;obtain⟨z,hz,h4⟩:=Option.map_eq_some_iff.1 h3;exact⟨i,z,hi,hz,h1,h2,h4⟩
theorem built_cmd(CA:Array Value)(h:CA.size=32):Tryz.prog.builtSlice 48 1 [(0,.agg CA)]=some CA:=by
 obtain⟨i,z,hi,hz,hs,-,-⟩:=info_cmd;unfold Program.builtSlice;rw[hi];simp only;rw[hz];simp only;rw[hs,if_neg (by decide)];refine(Go.Great.fill_whole (s:=32) (by decide) [.agg CA] _ (fun v hv=>by rw[List.mem_singleton]at hv;subst hv;exact h) (by simp)).trans ?_
 simp[Value.cells]
def cmds (K:List CmdL):List Cmd:=K.map CmdL.cmd
theorem cmds_len(K:List CmdL):(cmds K).length=K.length:=List.length_map _
theorem cmds_snoc(K:List CmdL)(x:CmdL):cmds (K ++ [x])=cmds K ++ [x.cmd]:=List.map_append
theorem cmds_sz{K:List CmdL}(h:∀ x∈K,CmdSz x.cmd):∀ c∈cmds K,CmdSz c:=fun c hc=>by obtain⟨x,hx,rfl⟩:=List.mem_map.1 hc;exact h x hx
theorem cmd_app{w:World}{base n c:Nat}{A:Option Addr}{K:List CmdL}{x:CmdL}{CC:Array Value}(h:RowX eCmd 48 w base (.slice A n c) K)(hn:K.length=n)(hx:x.In w)(hcc:x.cells.toArray=CC)(hxo:∀ g,(Value.slice A n c).ownBlock=some g→x.Off g)(hb:base≤w.heap.size)(hlim:n≤1000) :
    ∃ A' c' w',(Builtin.append_ #[25,25] 25 #[.slice A n c,.slice (some ⟨w.heap.size,0,none⟩) 1 1]).run Tryz.prog (w.alloc (.cells CC 48))=.ok (.slice A' (n+1) c') w'∧RowX eCmd 48 w' base (.slice A' (n+1) c') (K ++ [x])∧(w.alloc (.cells CC 48)).grownBy w' (Value.slice A n c).ownBlock:=by
 obtain⟨i,z,hi,hz,hs,hby,hzs⟩:=info_cmd;have XA:=(Ext.refl w).alloc (.cells CC 48);subst hcc;obtain⟨v',w',hrun,hown,hgr,hat⟩:=run_append_sl (P:=Tryz.prog) (w.alloc (.cells x.cells.toArray 48)) base 25 25 48 i z 32 376 Tryz.underlying25 hi hz hs hby hzs (by decide) _ _ _ (own_ext h.own XA) (some ⟨w.heap.size,0,none⟩) 1 [x.cells] (Sl.newRow w x.cells 48) (fun c hc=>by obtain rfl:=List.mem_singleton.1 hc;exact eCmd.len x) (fun c hc=>by obtain rfl:=List.mem_singleton.1 hc;exact eCmd.one x) (by unfold maxLen;simp only[List.length_singleton];omega) (by simp only[List.length_singleton];omega) (by simp;omega);obtain⟨A',c',rfl⟩:=own_form hown;have e0:[x.cells].flatten=eCmd.enc x:=by simp[eCmd]
 rw[e0]at hown;subst hn;exact⟨A',c',w',hrun,h.app hx hxo XA hown hgr hat,hgr⟩
def RetAc (p q:List Int)(er:Int)(e:Ending)(w':World):Prop:=∃ (b:BankL) (A:Option Addr) (c n:Nat) (K:List CmdL),e=.returned (.tuple #[b.agg,.slice A n c,.int .i64 er])∧K.length=n∧(er=0→OkAll (nBank p q) (cmds K)∧runB (nBank p q) (cmds K)=b.bank∧n≤40∧b.In w'∧SlX eCmd w' A K∧n≤c∧c≤maxLen∧∀ x∈K,CmdSz x.cmd)
set_option maxRecDepth 100000 in
set_option maxHeartbeats 51200000 in
theorem accepted_any(p q:IL)(A:Option Addr)(c n np nq:Nat)(l:List CmdL)(w:World)(hn:l.length=n)(hnp:p.xs.length=np)(hnq:q.xs.length=nq)(hp:p.In w)(hq:q.In w)(hp8:np*8≤140737488355328)(hq8:nq*8≤140737488355328)(hs:SlX eCmd w A l)(hc:n≤c)(hm:c≤maxLen)(hz:∀ x∈l,CmdSz x.cmd)(hG:Gm w)(hF:Fld w){er:Int}(her:Gv.gridE p.xs q.xs=er) :
    Calls Tryz.prog 15 #[.agg #[.slice p.A np p.c,.slice q.A nq q.c],.slice A n c] w fun e w'=>RetAc p.xs q.xs er e w'∧Ext w w':=by
 have XA:Hid (Ext w ((w.alloc (.cells #[.slice p.A np p.c,.slice q.A nq q.c] 24)).alloc (.cells #[.int .i64 0,.slice none 0 0,.slice none 0 0,.slice none 0 0,.slice none 0 0,.slice none 0 0,.slice none 0 0] 31))):=Hi (((Ext.refl w).alloc _).alloc _);have HR0:Hid (((w.alloc (.cells #[.slice p.A np p.c,.slice q.A nq q.c] 24)).alloc (.cells #[.int .i64 0,.slice none 0 0,.slice none 0 0,.slice none 0 0,.slice none 0 0,.slice none 0 0,.slice none 0 0] 31)).heap[w.heap.size+1]?=some (.cells #[.int .i64 0,.slice none 0 0,.slice none 0 0,.slice none 0 0,.slice none 0 0,.slice none 0 0,.slice none 0 0] 31 (0,0))):=Hi (heap_new_at _ _ _ (by simp));have KN:=Hi (bNew_any p q hnp hnq her _ (hp.ext XA.out) (hq.ext XA.out) hp8 hq8);have HI0:Hid (Inv 0 (nBank p.xs q.xs)):=Hi (Inv.new (by rw[hnp];exact hp8) (by rw[hnq];exact hq8));obtain⟨m,hmn⟩:∃ m,min n 40=m:=⟨_,rfl⟩;have hm63:c≤9223372036854775807:=by unfold maxLen at hm;omega
 have KC:=Hi (fun W=>cut_any A c n hmn W hc hm63);have hmn63:m≤9223372036854775807:=by omega
 have hm40:m≤40:=by omega
 have HS:Hid (SlX eCmd w A l):=Hi hs;have HNL:Hid (m≤l.length):=Hi (by omega);have HZ:=Hi hz;have HGM:=Hi hG;have HFD:=Hi hF;clear hn hnp hnq hp hq hp8 hq8 hs hc hm hz hG hF her hmn;go_enter Tryz.func15,Tryz.ntmps15
 go_wp2_with fail
 with_reducible refine KN.out.mono ?_
 rintro e w1 ⟨⟨b0,rfl,hb0,hin0,hfr0,-⟩,hb1⟩;have HX1:=Hi (XA.out.trans hb1);have HR1:=Hi (hb1.blockAt HR0.out);obtain⟨CB0,hcb,hnb,h1b,hkb⟩:=b0.packed;rw[hcb];have IB:=Hi (infoBk hnb);have NB:=Hi hnb;have OB:=Hi h1b;have XB:Hid (Ext w1 (w1.alloc (.cells CB0 31))):=Hi ((Ext.refl w1).alloc _);have HB0:=Hi hb0;have HIN0:=Hi hin0;have HOF0:Hid (b0.Off (w.heap.size+1)):=Hi (hfr0.off (by simp));have HG0:Hid ((w1.alloc (.cells CB0 31)).heap[w1.heap.size]?=some (.cells b0.cells.toArray 31 (0,0))):=Hi (by rw[hkb];exact heap_alloc_new w1 _);have HR2:=Hi (XB.out.blockAt HR1.out);have hw1:w.heap.size+1<w1.heap.size:=blk_lt HR1.out;have HW1:=Hi hw1;clear hb0 hin0 hfr0 hb1 hcb hnb h1b hkb;by_cases h0:er=0;case neg =>
  have HZS:=Hi (setRow_heap _ _ _ #[.int .i64 0,.slice none 0 0,.slice none 0 0,.slice none 0 0,.slice none 0 0,.slice none 0 0,.slice none 0 0] _ _ HR2.out);have IZ:=Hi inZ;have OZ:Hid ((#[.int .i64 0,.slice none 0 0,.slice none 0 0,.slice none 0 0,.slice none 0 0,.slice none 0 0,.slice none 0 0]:Array Value).all (·.oneCell')=true):=Hi (by simp[Value.oneCell']);go_wp2_with (first
      | (with_reducible refine wpList_store_newN rfl 31 (.tmp 7) (.tmp 17) rfl (w1.heap.size) (by with_reducible rfl) _ CB0 31 (by with_unfolding_all rfl) (by with_unfolding_all rfl) IB.out (by with_unfolding_all exact NB.out.symm) OB.out ?_)
      | (with_reducible refine wpList_store_row rfl 31 (.tmp 4) (.tmp 21) rfl (w.heap.size+1) #[.int .i64 0,.slice none 0 0,.slice none 0 0,.slice none 0 0,.slice none 0 0,.slice none 0 0,.slice none 0 0] (by with_unfolding_all rfl) (by with_unfolding_all rfl) _ _ HR2.out IZ.out (by rfl) OZ.out ?_))
  refine bodyPost_ret (v:=.tuple #[.agg #[.int .i64 0,.slice none 0 0,.slice none 0 0,.slice none 0 0,.slice none 0 0,.slice none 0 0,.slice none 0 0],.slice none 0 0,.int .i64 er]) (results_ctt Tryz.results15 _ _ (w.heap.size+1) _ _ _ _ rfl HZS.out Tryz.underlying31 rfl IZ.out rfl rfl) rfl ?_;exact⟨⟨BankL.zero,none,0,0,[],rfl,rfl,fun e=>absurd e h0⟩,(HX1.out.trans XB.out).rowSet (by omega) _⟩
 subst h0;have HBN:Hid (b0.bank=nBank p.xs q.xs):=Hi (by have h:=HB0.out;rw[if_pos rfl]at h;exact h);go_wp2_with (with_reducible refine wpList_store_newN rfl 31 (.tmp 7) (.tmp 17) rfl (w1.heap.size) (by with_reducible rfl) _ CB0 31 (by with_unfolding_all rfl) (by with_unfolding_all rfl) IB.out (by with_unfolding_all exact NB.out.symm) OB.out ?_)
 with_reducible refine(KC.out _).mono ?_
 rintro e w2 ⟨rfl,rfl⟩;go_wp2;go_loopw [26,9] (fun i kv wr=>∃ (k:Nat) (b:BankL) (KA:Option Addr) (Kc nk:Nat) (K:List CmdL),k≤m∧nk≤k∧i=.int .i64 k∧kv=.slice KA nk Kc∧Hid (K.length=nk)∧Hid (wr.heap[w1.heap.size]?=some (.cells b.cells.toArray 31 (0,0)))∧Hid (b.In wr)∧Hid (b.Off (w.heap.size+1))∧Hid (OkAll (nBank p.xs q.xs) (cmds K))∧Hid (runB (nBank p.xs q.xs) (cmds K)=b.bank)∧Hid (RowX eCmd 48 wr w1.heap.size (.slice KA nk Kc) K)∧Hid (∀ x∈K,x∈l)∧Hid (Ext w1 wr)) (fun i _ _=>m-(intOf i).toNat)
 case atStart=>exact⟨0,b0,none,0,0,[],by omega,by omega,rfl,rfl,Hi rfl,HG0,Hi (HIN0.out.ext XB.out),HOF0,Hi (OkAll.nil _),Hi HBN.out.symm,Hi (RowX.nil _ _ _),Hi (fun x hx=>by cases hx),XB⟩
 case round =>
 obtain⟨k,b,KA,Kc,nk,K,hk,hnk,rfl,rfl,HKL,HGB,HIN,HOF,HOK,HRUN,HROW,HKS,HE⟩:=hrel;clear HG0 HIN0 HOF0 HBN;obtain⟨CB,hcb,hnb,h1b,hkb⟩:=b.packed;have IB2:=Hi (infoBk hnb);have OB2:=Hi h1b;have HB7:Hid (CB.size=7):=Hi hnb;by_cases hlt:k<m;case neg =>
  obtain rfl:k=m:=by omega
  have HGB2:Hid (wr.heap[w1.heap.size]?=some (.cells CB 31 (0,0))):=Hi (by rw[← hkb];exact HGB.out);have HR3:=Hi (HE.out.blockAt HR1.out);have HZS:=Hi (setRow_heap _ _ _ CB _ _ HR3.out);have HZ7:Hid ((#[.int .i64 0,.slice none 0 0,.slice none 0 0,.slice none 0 0,.slice none 0 0,.slice none 0 0,.slice none 0 0]:Array Value).size=CB.size):=Hi HB7.out.symm;have HROW2:Hid (RowX eCmd 48 (wr.setRow (w.heap.size+1) CB) w1.heap.size (.slice KA nk Kc) K):=Hi (HROW.out.keepT HR3.out (by decide) (fun x hx=>(HS.out.ins x (HKS.out x hx)).off (Nat.le_succ _)) (But.setRow _ _ _));go_wp2_with (first
      | (with_reducible refine wpList_load_row rfl 31 (.tmp 7) rfl (w1.heap.size) (by with_unfolding_all rfl) _ CB _ _ HGB2.out Tryz.underlying31 rfl IB2.out ?_)
      | (with_reducible refine wpList_store_row rfl 31 (.tmp 4) (.tmp 44) rfl (w.heap.size+1) CB (by with_unfolding_all rfl) (by with_unfolding_all rfl) _ _ HR3.out IB2.out HZ7.out OB2.out ?_))
  refine bodyPost_ret (v:=.tuple #[.agg CB,.slice KA nk Kc,.int .i64 0]) (results_ctt Tryz.results15 _ _ (w.heap.size+1) _ _ _ _ rfl HZS.out Tryz.underlying31 rfl IB2.out rfl rfl) rfl ?_;rw[← hcb];obtain⟨s1,s2,s3,s4⟩:=HROW2.out.slx;exact⟨⟨b,KA,Kc,nk,K,rfl,HKL.out,fun _=>⟨HOK.out,HRUN.out,by omega,HIN.out.but HOF.out (But.setRow _ _ _),s1,by omega,s4,fun x hx=>HZ.out x (HKS.out x hx)⟩⟩,(HX1.out.trans HE.out).rowSet (by omega) _⟩
 obtain⟨x,hx⟩:∃ x,l[k]?=some x:=⟨_,List.getElem?_eq_getElem (by have:=HNL.out;omega)⟩;obtain⟨bb,off,rfl,hbl,hrg,hxin⟩:=(HS.out.ext (HX1.out.trans HE.out)).at_ hx;obtain⟨CC,hcc,hnc,h1c⟩:=x.packed;have HRG:Hid (wr.rangeAt bb (off+k*32) CC.toList):=Hi (by rw[← hcc];exact hrg);have IC:=Hi (infoCm hnc);have NC:=Hi hnc;have OC:=Hi h1c;have ki0:(0:Int)≤(k:Int):=by omega
 have ki1:(k:Int)<(m:Int):=by omega
 have XC:Hid (Ext wr (wr.alloc (.cells CC 48))):=Hi ((Ext.refl wr).alloc _);have HGB2:Hid ((wr.alloc (.cells CC 48)).heap[w1.heap.size]?=some (.cells CB 31 (0,0))):=Hi (XC.out.blockAt (by rw[← hkb];exact HGB.out));have HGC:Hid ((wr.alloc (.cells CC 48)).heap[wr.heap.size]?=some (.cells CC 48 (0,0))):=Hi (heap_alloc_new wr _);have HXW:=Hi (HX1.out.trans (HE.out.trans XC.out));obtain⟨er2,bo,hr⟩:∃ (e2:Int) (bo:Bank),aplE b.bank x.cmd=(e2,bo):=⟨_,_,rfl⟩;have HINV:Hid (Inv nk b.bank):=Hi (by have h:=inv_run HOK.out HI0.out (cmds_sz fun x hx=>HZ.out x (HKS.out x hx));rw[HRUN.out,cmds_len,HKL.out]at h;exact h)
 have KA_:=Hi (apply_any nk b x CC (wr.alloc (.cells CC 48)) hcc (HIN.out.ext XC.out) HINV.out (by omega) (hxin.ext XC.out) (HZ.out x (List.mem_of_getElem? hx)) (HGM.out.ext HXW.out) (HFD.out.ext HXW.out) hr);rw[hcb]at KA_;have HR:=Hi hr;have HXL:=Hi (List.mem_of_getElem? hx);have HCC:=Hi hcc;clear hx hbl hrg hxin hcc hnc h1c hcb hnb h1b hkb hr;go_wp2_with (first
       | (with_reducible refine wpList_load_arr rfl 48 (.tmp 28) rfl (bb) (off+k*32) (by with_unfolding_all rfl) CC _ HRG.out Tryz.underlying48 rfl IC.out ?_)
       | (with_reducible refine wpList_store_newN rfl 48 (.tmp 11) (.tmp 29) rfl (wr.heap.size) (by with_reducible rfl) _ CC 48 (by with_unfolding_all rfl) (by with_unfolding_all rfl) IC.out (by with_unfolding_all exact NC.out.symm) OC.out ?_)
       | (with_reducible refine wpList_load_row rfl 31 (.tmp 7) rfl (w1.heap.size) (by with_unfolding_all rfl) _ CB _ _ HGB2.out Tryz.underlying31 rfl IB2.out ?_)
       | (with_reducible refine wpList_load_row rfl 48 (.tmp 11) rfl (wr.heap.size) (by with_unfolding_all rfl) _ CC _ _ HGC.out Tryz.underlying48 rfl IC.out ?_))
 with_reducible refine KA_.out.mono ?_
 rintro e w3 ⟨⟨b2,rfl,hb2,hin2,hfr2⟩,hb3⟩;obtain⟨CN,hcn,hnn,h1n,hkn⟩:=b2.packed;rw[hcn];have IN_:=Hi (infoBk hnn);have NN:=Hi hnn;have ON:=Hi h1n;have XN:Hid (Ext w3 (w3.alloc (.cells CN 31))):=Hi ((Ext.refl w3).alloc _);have HX3:=Hi (hb3.trans XN.out);have HXR:=Hi (XC.out.trans HX3.out);by_cases h2:er2=0;case neg =>
  clear hb2 hin2 hfr2 hb3 hcn hnn h1n hkn;go_wp2_with (with_reducible refine wpList_store_newN rfl 31 (.tmp 12) (.tmp 34) rfl (w3.heap.size) (by with_reducible rfl) _ CN 31 (by with_unfolding_all rfl) (by with_unfolding_all rfl) IN_.out (by with_unfolding_all exact NN.out.symm) ON.out ?_)
  go_roundw;case rel=>exact⟨k+1,b,KA,Kc,nk,K,by omega,by omega,by go_num,rfl,HKL,Hi (HXR.out.blockAt HGB.out),Hi (HIN.out.ext HXR.out),HOF,HOK,HRUN,Hi (HROW.out.ext HXR.out),HKS,Hi (HE.out.trans HXR.out)⟩
  case measure=>simp[intOf];omega
 subst h2;have HN7:Hid (CB.size=CN.size):=Hi (by rw[HB7.out,hnn]);have HGN:Hid ((w3.alloc (.cells CN 31)).heap[w3.heap.size]?=some (.cells CN 31 (0,0))):=Hi (heap_alloc_new w3 _);have HGB3:Hid ((w3.alloc (.cells CN 31)).heap[w1.heap.size]?=some (.cells CB 31 (0,0))):=Hi (HX3.out.blockAt HGB2.out);have HB2:Hid (b2.bank=bo):=Hi hb2;have HFR2:Hid (b2.From (wr.heap.size+1)):=Hi (by have h:=hfr2;simpa using h);have HKN:=Hi hkn;have hwr:w1.heap.size<wr.heap.size:=blk_lt HGB.out;obtain⟨W5,hW5⟩:∃ W,(w3.alloc (.cells CN 31)).setRow w1.heap.size CN=W:=⟨_,rfl⟩;have HBUT:Hid (But w1.heap.size (w3.alloc (.cells CN 31)) W5):=Hi (by rw[← hW5];exact But.setRow _ _ _);have HX5:Hid (Ext w1 W5):=Hi (by rw[← hW5];exact(HE.out.trans HXR.out).rowSet (Nat.le_refl _) _);have HG5:Hid (W5.heap[w1.heap.size]?=some (.cells CN 31 (0,0))):=Hi (by rw[← hW5];exact setRow_heap _ _ _ _ _ _ HGB3.out);have HC5:Hid (W5.heap[wr.heap.size]?=some (.cells CC 48 (0,0))):=Hi (by rw[HBUT.out.2 _ (blk_lt (HX3.out.blockAt HGC.out)) (by omega)];exact HX3.out.blockAt HGC.out)
 have HIN5:Hid (b2.In W5):=Hi ((hin2.ext XN.out).but (HFR2.out.off (by omega)) HBUT.out);have HK5:Hid (∀ x∈K,x.In w):=Hi (fun x hx=>HS.out.ins x (HKS.out x hx));have HROW5:Hid (RowX eCmd 48 W5 w1.heap.size (.slice KA nk Kc) K):=Hi ((HROW.out.ext HXR.out).keepT HGB3.out (by decide) (fun x hx=>(HK5.out x hx).off (by omega)) HBUT.out);have HXI:Hid (x.In w):=Hi (HS.out.ins x HXL.out);obtain⟨A5,c5,w6,hrun,hrow6,hgr6⟩:=cmd_app (CC:=CC) HROW5.out HKL.out (HXI.out.ext (HX1.out.trans HX5.out)) HCC.out (fun g hg=>HXI.out.off (by have:=own_ge HROW5.out.own g hg;omega)) HX5.out.size (by omega)
 have HBU:=Hi (built_cmd CC NC.out);have HW5:=Hi hW5;have HRUN6:Hid ((Builtin.append_ #[25,25] 25 #[.slice KA nk Kc,.slice (some ⟨W5.heap.size,0,none⟩) 1 1]).run Tryz.prog (W5.alloc (.cells CC 48))=.ok (.slice A5 (nk+1) c5) w6):=Hi hrun;have HROW6:=Hi hrow6;have XA5:Hid (Ext W5 (W5.alloc (.cells CC 48))):=Hi ((Ext.refl W5).alloc _);have hgb6:∃ q,w1.heap.size<q∧q<wr.heap.size+1∧But q (W5.alloc (.cells CC 48)) w6:=by
  cases ho:(Value.slice KA nk Kc).ownBlock with
  | none=>rw[ho]at hgr6;exact⟨wr.heap.size,hwr,by omega,But.ext _ (grown_none hgr6)⟩
  | some q =>
   rw[ho]at hgr6;refine⟨q,?_,?_,But.grown hgr6⟩
   · have h1:=own_ge HROW5.out.own q ho;have h3:q≠w1.heap.size:=fun e=>own_other HROW5.out.own HG5.out (by decide) (by rw[ho,e]);omega
   · have:=own_lt HROW.out.own q ho;omega
 obtain⟨gq,hq1,hq2,hbq⟩:=hgb6;have HG6:Hid (w6.heap[w1.heap.size]?=some (.cells b2.cells.toArray 31 (0,0))):=Hi (by rw[hbq.2 _ (blk_lt (XA5.out.blockAt HG5.out)) (by omega),hkn];exact XA5.out.blockAt HG5.out)
 have HIN6:Hid (b2.In w6):=Hi ((HIN5.out.ext XA5.out).but (HFR2.out.off hq2) hbq);have HOF6:Hid (b2.Off (w.heap.size+1)):=Hi (HFR2.out.off (by omega));have HX6:Hid (Ext w1 w6):=Hi ((HX5.out.trans XA5.out).grown hgr6 (fun g hg=>own_ge HROW5.out.own g hg));have HOK6:Hid (OkAll (nBank p.xs q.xs) (cmds (K ++ [x]))):=Hi (by rw[cmds_snoc];exact HOK.out.snoc (by rw[HRUN.out,HR.out]))
 have HRN6:Hid (runB (nBank p.xs q.xs) (cmds (K ++ [x]))=b2.bank):=Hi (by rw[cmds_snoc,runB_snoc,HRUN.out,HR.out,HB2.out])
 have HKL6:Hid ((K ++ [x]).length=nk+1):=Hi (by rw[List.length_append,HKL.out,List.length_singleton]);have HKS6:Hid (∀ y∈K ++ [x],y∈l):=Hi (fun y hy=>by
  rcases List.mem_append.1 hy with hy | hy
  · exact HKS.out y hy
  · rw[List.mem_singleton]at hy;rw[hy];exact HXL.out)
 clear hb2 hin2 hfr2 hb3 hcn hnn h1n hkn hW5 hrun hrow6 hgr6 hbq hq1 hq2;go_wp2_with (first
       | (with_reducible refine wpList_store_newN rfl 31 (.tmp 12) (.tmp 34) rfl (w3.heap.size) (by with_reducible rfl) _ CN 31 (by with_unfolding_all rfl) (by with_unfolding_all rfl) IN_.out (by with_unfolding_all exact NN.out.symm) ON.out ?_)
       | (with_reducible refine wpList_load_row rfl 31 (.tmp 12) rfl (w3.heap.size) (by with_unfolding_all rfl) _ CN _ _ HGN.out Tryz.underlying31 rfl IN_.out ?_)
       | (with_reducible refine wpList_store_row rfl 31 (.tmp 7) (.tmp 38) rfl (w1.heap.size) CN (by with_unfolding_all rfl) (by with_unfolding_all rfl) _ _ HGB3.out IN_.out HN7.out ON.out ?_;rw[HW5.out])
       | (with_reducible refine wpList_load_row rfl 48 (.tmp 11) rfl (wr.heap.size) (by with_unfolding_all rfl) _ CC _ _ HC5.out Tryz.underlying48 rfl IC.out ?_)
       | (with_reducible refine Go.Great.wpList_buildSliceTo rfl 25 48 1 _ rfl W5.heap.size rfl _ rfl Tryz.underlying25 CC (by with_unfolding_all exact HBU.out) ?_)
       | (at_builtin;refine Lib.wpList_append_run _ rfl _ _ _ _ rfl _ _ rfl rfl _ _ HRUN6.out ?_))
 go_roundw;case rel=>exact⟨k+1,b2,A5,c5,nk+1,K ++ [x],by omega,by omega,by go_num,rfl,HKL6,HG6,HIN6,HOF6,HOK6,HRN6,HROW6,HKS6,HX6⟩
 case measure=>simp[intOf];omega

end Bk
namespace Bk
theorem infoGr_{CS:Array Value}(h:CS.size=2):(Tryz.prog.info? 24).map (·.size)=some CS.size:=by rw[h];kernel_rfl
set_option maxRecDepth 100000 in
set_option maxHeartbeats 12800000 in
theorem bCheck_any(b:BankL)(w:World)(h:b.In w)(hV:Vb b.bank)(hI:BankSz b.bank)(hG:Gm w) :
    Calls Tryz.prog 26 #[b.agg] w fun e w'=>e=.returned (.int .i64 0)∧Ext w w':=by
 obtain⟨CB,hcb,hnb,-,hkb⟩:=b.packed;have XA:Hid (Ext w (w.alloc (.cells CB 31))):=Hi ((Ext.refl w).alloc _);obtain⟨ng,hng⟩:∃ n,b.gp.xs.length=n:=⟨_,rfl⟩;obtain⟨nq,hnq⟩:∃ n,b.gq.xs.length=n:=⟨_,rfl⟩;obtain⟨no,hno⟩:∃ n,b.outl.length=n:=⟨_,rfl⟩;obtain⟨na,hna⟩:∃ n,b.assets.length=n:=⟨_,rfl⟩;obtain⟨ne,hne⟩:∃ n,b.ents.length=n:=⟨_,rfl⟩;have hgp:=h.gp.2;have hgq:=h.gq.2;have ho:=h.oc;have ha:=h.ac;have hE:=h.ec;have KG:=Hi (fun(W:World) (hx:Ext w W)=>kgrid_any b.gp.A b.gp.c b.gq.A b.gq.c b.gp.xs b.gq.xs hng hnq hV.grid W (h.gp.1.ext hx) (h.gq.1.ext hx) (by unfold maxLen at hgp;omega) (by unfold maxLen at hgq;omega));have KT:=Hi (fun(W:World) (hx:Ext w W)=>ctCheck_any b.oA b.oc no b.outl hno hV.outl W (h.outl.ext hx) (by rw[← hno];exact ho.1) (by unfold maxLen at ho;omega) (by unfold maxLen at ho;omega) (hG.ext hx));have KA:=Hi (fun(W:World) (hx:Ext w W)=>checkAssets_any b.aA b.ac na b.assets W hna (h.assets.ext hx) (by rw[← hna];exact hV.an) hV.av hV.as_);have KE:=Hi (fun(k:Nat) (e:EntL) (he:b.ents[k]?=some e) (W:World) (hx:Ext w W)=>checkEntry_any b k e W (h.ext hx) hV hI he (hG.ext hx));have KN:=Hi (fun(W:World) (hx:Ext w W)=>checkEnemies_any b W (h.ext hx) hV.rn hV.rl hV.rf);rw[hcb]at KE KN ⊢;have IB:=Hi (infoBk hnb);have HG:Hid ((w.alloc (.cells CB 31)).heap[w.heap.size]?=some (.cells CB 31 (0,0))):=Hi (heap_alloc_new w _);have HR:Hid ((w.alloc (.cells CB 31)).rangeAt w.heap.size 1 (#[.slice b.gp.A ng b.gp.c,.slice b.gq.A nq b.gq.c]:Array Value).toList):=Hi (rng2 HG.out (by rw[← hkb,← hng];rfl) (by rw[← hkb,← hnq];rfl));have IG:=Hi (infoGr_ (CS:=#[.slice b.gp.A ng b.gp.c,.slice b.gq.A nq b.gq.c]) rfl);have c0:(w.alloc (.cells CB 31)).cell? ⟨w.heap.size,0,none⟩=some (.int .i64 b.now):=(cell_of_row _ _ 0 _ _ _ HG.out).trans (by rw[← hkb];rfl);have C3:Hid ((w.alloc (.cells CB 31)).cell? ⟨w.heap.size,3,none⟩=some (.slice b.oA no b.oc)):=Hi ((cell_of_row _ _ 3 _ _ _ HG.out).trans (by rw[← hkb,← hno];rfl));have C4:Hid ((w.alloc (.cells CB 31)).cell? ⟨w.heap.size,4,none⟩=some (.slice b.aA na b.ac)):=Hi ((cell_of_row _ _ 4 _ _ _ HG.out).trans (by rw[← hkb,← hna];rfl));have C5:Hid ((w.alloc (.cells CB 31)).cell? ⟨w.heap.size,5,none⟩=some (.slice b.eA ne b.ec)):=Hi ((cell_of_row _ _ 5 _ _ _ HG.out).trans (by rw[← hkb,← hne];rfl));have hn:=hV.now;have hnw:b.bank.now=b.now:=rfl;rw[hnw]at hn;have g0:¬ b.now<0:=by omega
 have g1:¬ 1099511627776<b.now:=by omega
 have g2:¬ (200:Int)<(ne:Int):=by have h1:=hV.en;have h2:b.bank.ents.length=b.ents.length:=List.length_map _;omega
 have HNE:=Hi hne;have hne63:ne≤9223372036854775807:=by omega
 clear h hV hI hG hcb hnb hkb hng hnq hno hna hne hgp hgq ho ha hE hn hnw;go_enter Tryz.func26,Tryz.ntmps26
 go_wp2_with (with_reducible refine wpList_load_arr rfl 24 (.tmp 17) rfl (w.heap.size) (1) (by with_unfolding_all rfl) #[.slice b.gp.A ng b.gp.c,.slice b.gq.A nq b.gq.c] _ HR.out Tryz.underlying24 rfl IG.out ?_)
 with_reducible refine(KG.out _ XA.out).mono ?_
 rintro e w1 ⟨rfl,hb1⟩;have HX1:=Hi hb1;have c3:w1.cell? ⟨w.heap.size,3,none⟩=some (.slice b.oA no b.oc):=HX1.out.keep C3.out;clear hb1 c0 g0 g1;go_wp2_with fail
 with_reducible refine(KT.out _ (XA.out.trans HX1.out)).mono ?_
 rintro e w2 ⟨⟨i,rfl⟩,hb2⟩;have HX2:=Hi (HX1.out.trans hb2);have c4:w2.cell? ⟨w.heap.size,4,none⟩=some (.slice b.aA na b.ac):=HX2.out.keep C4.out;clear hb2 c3;go_wp2_with fail
 with_reducible refine(KA.out _ (XA.out.trans HX2.out)).mono ?_
 rintro e w3 ⟨rfl,hb3⟩;have HX3:=Hi (HX2.out.trans hb3);have c5:w3.cell? ⟨w.heap.size,5,none⟩=some (.slice b.eA ne b.ec):=HX3.out.keep C5.out;clear hb3 c4;go_wp2;clear c5 g2;go_loopw [45] (fun i wr=>∃ k:Nat,k≤ne∧i=.int .i64 k∧Hid (Ext (w.alloc (.cells CB 31)) wr)) (fun i _=>ne-(intOf i).toNat)
 case atStart=>exact⟨0,by omega,rfl,HX3⟩
 case round =>
 obtain⟨k,hk,rfl,HE⟩:=hrel;have HGR:=Hi (HE.out.blockAt HG.out);by_cases hlt:k<ne;case neg =>
  obtain rfl:k=ne:=by omega
  go_wp2_with (with_reducible refine wpList_load_row rfl 31 (.tmp 1) rfl (w.heap.size) (by with_unfolding_all rfl) _ CB _ _ HGR.out Tryz.underlying31 rfl IB.out ?_)
  with_reducible refine(KN.out _ (XA.out.trans HE.out)).mono ?_
  rintro e w4 ⟨rfl,hb4⟩;go_wp2;go_ret;exact⟨rfl,XA.out.trans (HE.out.trans hb4)⟩
 obtain⟨x,hx⟩:∃ x,b.ents[k]?=some x:=⟨_,List.getElem?_eq_getElem (by rw[HNE.out];exact hlt)⟩;have ki0:(0:Int)≤(k:Int):=by omega
 have ki1:(k:Int)<(ne:Int):=by omega
 have KX:=Hi (KE.out k x hx _ (XA.out.trans HE.out));clear hx;go_wp2_with (with_reducible refine wpList_load_row rfl 31 (.tmp 1) rfl (w.heap.size) (by with_unfolding_all rfl) _ CB _ _ HGR.out Tryz.underlying31 rfl IB.out ?_)
 with_reducible refine KX.out.mono ?_
 rintro e w4 ⟨rfl,hb4⟩;have HX4:=Hi (HE.out.trans hb4);clear hb4;go_wp2;go_roundw;case rel=>exact⟨k+1,by omega,by go_num,HX4⟩
 case measure=>simp[intOf];omega
set_option maxRecDepth 100000 in
set_option maxHeartbeats 12800000 in
theorem valids_any(p q:IL)(A:Option Addr)(c n np nq:Nat)(l:List CmdL)(w:World)(hn:l.length=n)(hnp:p.xs.length=np)(hnq:q.xs.length=nq)(hp:p.In w)(hq:q.In w)(hp8:np*8≤140737488355328)(hq8:nq*8≤140737488355328)(hs:SlX eCmd w A l)(hc:n≤c)(hm:c≤maxLen)(hz:∀ x∈l,CmdSz x.cmd)(hG:Gm w)(hF:Fld w) :
    Calls Tryz.prog 7 #[.agg #[.slice p.A np p.c,.slice q.A nq q.c],.slice A n c] w fun e w'=>e=.returned (.bool true)∧Ext w w':=by
 obtain⟨er,her⟩:∃ v,Gv.gridE p.xs q.xs=v:=⟨_,rfl⟩;have XA:Hid (Ext w (w.alloc (.cells #[.slice p.A np p.c,.slice q.A nq q.c] 24))):=Hi ((Ext.refl w).alloc _);have KC:=Hi (accepted_any p q A c n np nq l _ hn hnp hnq (hp.ext XA.out) (hq.ext XA.out) hp8 hq8 (hs.ext XA.out) hc hm hz (hG.ext XA.out) (hF.ext XA.out) her);have HI0:Hid (Inv 0 (nBank p.xs q.xs)):=Hi (Inv.new (by rw[hnp];exact hp8) (by rw[hnq];exact hq8));have HGM:=Hi hG;have HFD:=Hi hF;have HER:=Hi her;clear hn hnp hnq hp hq hp8 hq8 hs hc hm hz hG hF her;go_enter Tryz.func7,Tryz.ntmps7
 go_wp2_with fail
 with_reducible refine KC.out.mono ?_
 rintro e w1 ⟨⟨b,KA,kc,m,K,rfl,hkn,hok⟩,hb1⟩;have HX1:=Hi (XA.out.trans hb1);obtain⟨CB,hcb,hnb,h1b,hkb⟩:=b.packed;rw[hcb];have IB:=Hi (infoBk hnb);have NB:=Hi hnb;have OB:=Hi h1b;have XB:Hid (Ext w1 (w1.alloc (.cells CB 31))):=Hi ((Ext.refl w1).alloc _);have HGB:Hid ((w1.alloc (.cells CB 31)).heap[w1.heap.size]?=some (.cells CB 31 (0,0))):=Hi (heap_alloc_new w1 _);have HX2:=Hi (HX1.out.trans XB.out);have HOK:=Hi hok;have HKN:=Hi hkn;have HCB:=Hi hcb;clear hb1 hkn hok hcb hnb h1b hkb;by_cases h0:er=0;case neg =>
  go_wp2_with (with_reducible refine wpList_store_newN rfl 31 (.tmp 5) (.tmp 12) rfl (w1.heap.size) (by with_reducible rfl) _ CB 31 (by with_unfolding_all rfl) (by with_unfolding_all rfl) IB.out (by with_unfolding_all exact NB.out.symm) OB.out ?_)
  with_reducible refine(awake_any _ (HGM.out.ext HX2.out) (HFD.out.ext HX2.out)).mono ?_
  rintro e w2 ⟨rfl,hb2⟩;go_wp2;go_ret;exact⟨rfl,HX2.out.trans hb2⟩
 subst h0;obtain⟨hk1,hk2,hk3,hin,-,-,-,hsz⟩:=HOK.out rfl;have hv:Vb b.bank:=by rw[← hk2];exact vb_run hk1 (Vb.new HER.out)
 have hbz:BankSz b.bank:=by
  have h1:=inv_run hk1 HI0.out (fun c hc=>by obtain⟨x,hx,rfl⟩:=List.mem_map.1 hc;exact hsz x hx)
  rw[hk2]at h1;refine h1.sz ?_;have h2:(cmds K).length=K.length:=List.length_map _;have:=HKN.out;omega
 have KV:=Hi (bCheck_any b _ (hin.ext XB.out) hv hbz (HGM.out.ext HX2.out));rw[HCB.out]at KV;clear hk1 hk2 hk3 hin hsz hv hbz;go_wp2_with (first
       | (with_reducible refine wpList_store_newN rfl 31 (.tmp 5) (.tmp 12) rfl (w1.heap.size) (by with_reducible rfl) _ CB 31 (by with_unfolding_all rfl) (by with_unfolding_all rfl) IB.out (by with_unfolding_all exact NB.out.symm) OB.out ?_)
       | (with_reducible refine wpList_load_row rfl 31 (.tmp 5) rfl (w1.heap.size) (by with_unfolding_all rfl) _ CB _ _ HGB.out Tryz.underlying31 rfl IB.out ?_))
 with_reducible refine KV.out.mono ?_
 rintro e w2 ⟨rfl,hb2⟩;have HX3:=Hi (HX2.out.trans hb2);clear hb2;go_wp2_with fail
 with_reducible refine(awake_any _ (HGM.out.ext HX3.out) (HFD.out.ext HX3.out)).mono ?_
 rintro e w3 ⟨rfl,hb3⟩;go_wp2;go_ret;exact⟨rfl,HX3.out.trans hb3⟩
end Bk
end Go.Proofs.YtfnmgcblhebdbaaGreatDoor
