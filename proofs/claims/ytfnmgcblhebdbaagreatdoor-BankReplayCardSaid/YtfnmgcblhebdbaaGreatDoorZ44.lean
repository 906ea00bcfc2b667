/- The law's accepted commands, bank.Replay: contracts. Conditions: those of each theorem. -/
import Derived.Test.YtfnmgcblhebdbaaGreatDoorZ43
import Derived.Test.YtfnmgcblhebdbaaGreatDoorZ12
import Derived.Great.Walk
import Derived.Test.YtfnmgcblhebdbaaGreatDoorZ11
import Derived.Test.YtfnmgcblhebdbaaGreatDoorZ34
namespace Go.Proofs.YtfnmgcblhebdbaaGreatDoor
set_option maxRecDepth 100000
set_option maxHeartbeats 51200000
open Go.RowKit
namespace Bk
theorem results_ctt{P:Program}{fn:Func}{p k1 k2:Tmp}{ty:TypeId}(h:fn.results=#[.cell p ty,.tmp k1,.tmp k2])(tmps:Array Value)(w:World)(g:Nat)(t:TypeId)(cs:Array Value)(fr:Nat×Nat)(d:TypeDesc){v1 v2:Value}
    (hp:tmps.getD p undef=.pointer (some ⟨g,0,none⟩)) (hg:w.heap[g]?=some (.cells cs t fr))
    (hu:P.underlying ty=some d) (hd:(match d with | .struct _ | .array _ _=>true | _=>false)=true) (hi:(P.info? ty).map (·.size)=some cs.size) (hk1:tmps.getD k1 undef=v1) (hk2:tmps.getD k2 undef=v2) :
    (results fn tmps).run P w=.ok (.tuple #[.agg cs,v1,v2]) w:=by
 subst hk1 hk2;have hp':tmps[p]?.getD undef=.pointer (some ⟨g,0,none⟩):=by simpa using hp
 simp[results,h,hp',asAddr,run_loadVar_row w g t ty cs fr d hg hu hd hi]
theorem info_cmd:∃ i z,Tryz.prog.info? 48=some i∧i.zero=some z∧i.size=32∧i.bytes=376∧z.cells.size=32:=by
 have h:(Tryz.prog.info? 48).map (fun i=>(i.size,i.bytes,i.zero.map (·.cells.size)))=some (32,376,some 32):=by kernel_rfl
 obtain⟨i,hi,hx⟩:=Option.map_eq_some_iff.1 h;simp only[Prod.mk.injEq]at hx;obtain⟨h1,h2,h3⟩:=hx;obtain⟨z,hz,h4⟩:=Option.map_eq_some_iff.1 h3;exact⟨i,z,hi,hz,h1,h2,h4⟩
theorem built_cmd(CA:Array Value)(h:CA.size=32):Tryz.prog.builtSlice 48 1 [(0,.agg CA)]=some CA:=by
 obtain⟨i,z,hi,hz,hs,-,-⟩:=info_cmd;unfold Program.builtSlice;rw[hi];simp only;rw[hz];simp only;rw[hs,if_neg (by decide)];refine(Go.Great.fill_whole (s:=32) (by decide) [.agg CA] _ (fun v hv=>by rw[List.mem_singleton]at hv;subst hv;exact h) (by simp)).trans ?_
 simp[Value.cells]
def cmds (K:List CmdL):List Cmd:=K.map CmdL.cmd
theorem cmds_len(K:List CmdL):(cmds K).length=K.length:=List.length_map _
theorem cmds_snoc(K:List CmdL)(x:CmdL):cmds (K ++ [x])=cmds K ++ [x.cmd]:=List.map_append
theorem cmds_sz{K:List CmdL}(h:∀ x∈K,CmdSz x.cmd):∀ c∈cmds K,CmdSz c:=fun c hc=>by obtain⟨x,hx,rfl⟩:=List.mem_map.1 hc;exact h x hx
theorem cmds_at{K:List CmdL}{k:Nat}{x:CmdL}(h:K[k]?=some x):(cmds K)[k]?=some x.cmd:=by unfold cmds;rw[List.getElem?_map,h];rfl
theorem cmd_app{w:World}{base n c:Nat}{A:Option Addr}{K:List CmdL}{x:CmdL}{CC:Array Value}(h:RowX eCmd 48 w base (.slice A n c) K)(hn:K.length=n)(hx:x.In w)(hcc:x.cells.toArray=CC)(hxo:∀ g,(Value.slice A n c).ownBlock=some g→x.Off g)(hb:base≤w.heap.size)(hlim:n≤1000) :
    ∃ A' c' w',(Builtin.append_ #[25,25] 25 #[.slice A n c,.slice (some ⟨w.heap.size,0,none⟩) 1 1]).run Tryz.prog (w.alloc (.cells CC 48))=.ok (.slice A' (n+1) c') w'∧RowX eCmd 48 w' base (.slice A' (n+1) c') (K ++ [x])∧(w.alloc (.cells CC 48)).grownBy w' (Value.slice A n c).ownBlock:=by
 obtain⟨i,z,hi,hz,hs,hby,hzs⟩:=info_cmd;have XA:=(Ext.refl w).alloc (.cells CC 48);subst hcc;obtain⟨v',w',hrun,hown,hgr,hat⟩:=run_append_sl (P:=Tryz.prog) (w.alloc (.cells x.cells.toArray 48)) base 25 25 48 i z 32 376 Tryz.underlying25 hi hz hs hby hzs (by decide) _ _ _ (own_ext h.own XA) (some ⟨w.heap.size,0,none⟩) 1 [x.cells] (Sl.newRow w x.cells 48) (fun c hc=>by obtain rfl:=List.mem_singleton.1 hc;exact eCmd.len x) (fun c hc=>by obtain rfl:=List.mem_singleton.1 hc;exact eCmd.one x) (by unfold maxLen;simp only[List.length_singleton];omega) (by simp only[List.length_singleton];omega) (by simp;omega);obtain⟨A',c',rfl⟩:=own_form hown;have e0:[x.cells].flatten=eCmd.enc x:=by simp[eCmd]
 rw[e0]at hown;subst hn;exact⟨A',c',w',hrun,h.app hx hxo XA hown hgr hat,hgr⟩
def RetAc (p q:List Int)(er:Int)(e:Ending)(w':World):Prop:=∃ (b:BankL) (A:Option Addr) (c n:Nat) (K:List CmdL),e=.returned (.tuple #[b.agg,.slice A n c,.int .i64 er])∧K.length=n∧(er=0→OkAll (nBank p q) (cmds K)∧runB (nBank p q) (cmds K)=b.bank∧n≤40∧b.In w'∧SlX eCmd w' A K∧n≤c∧c≤maxLen∧∀ x∈K,CmdSz x.cmd)
theorem accepted_any(p q:IL)(A:Option Addr)(c n np nq:Nat)(l:List CmdL)(w:World)(hn:l.length=n)(hnp:p.xs.length=np)(hnq:q.xs.length=nq)(hp:p.In w)(hq:q.In w)(hp8:np*8≤140737488355328)(hq8:nq*8≤140737488355328)(hs:SlX eCmd w A l)(hc:n≤c)(hm:c≤maxLen)(hz:∀ x∈l,CmdSz x.cmd)(hG:Gm w)(hF:Fld w){er:Int}(her:Gv.gridE p.xs q.xs=er) :
    Calls Tryz.prog 15 #[.agg #[.slice p.A np p.c,.slice q.A nq q.c],.slice A n c] w fun e w'=>RetAc p.xs q.xs er e w'∧Ext w w':=by
 have XA:Hid (Ext w ((w.alloc (.cells #[.slice p.A np p.c,.slice q.A nq q.c] 24)).alloc (.cells #[.int .i64 0,.slice none 0 0,.slice none 0 0,.slice none 0 0,.slice none 0 0,.slice none 0 0,.slice none 0 0] 31))):=Hi (((Ext.refl w).alloc _).alloc _);have HR0:Hid (((w.alloc (.cells #[.slice p.A np p.c,.slice q.A nq q.c] 24)).alloc (.cells #[.int .i64 0,.slice none 0 0,.slice none 0 0,.slice none 0 0,.slice none 0 0,.slice none 0 0,.slice none 0 0] 31)).heap[w.heap.size+1]?=some (.cells #[.int .i64 0,.slice none 0 0,.slice none 0 0,.slice none 0 0,.slice none 0 0,.slice none 0 0,.slice none 0 0] 31 (0,0))):=Hi (heap_new_at _ _ _ (by simp));have KN:=Hi (bNew_any p q hnp hnq her _ (hp.ext XA.out) (hq.ext XA.out) hp8 hq8);have HI0:Hid (Inv 0 (nBank p.xs q.xs)):=Hi (Inv.new (by rw[hnp];exact hp8) (by rw[hnq];exact hq8));obtain⟨m,hmn⟩:∃ m,min n 40=m:=⟨_,rfl⟩;have hm63:c≤9223372036854775807:=by unfold maxLen at hm;omega
 have KC:=Hi (fun W=>cut_any A c n hmn W hc hm63);have hmn63:m≤9223372036854775807:=by omega
 have hm40:m≤40:=by omega
 have HS:Hid (SlX eCmd w A l):=Hi hs;have HNL:Hid (m≤l.length):=Hi (by omega);have HZ:=Hi hz;have HGM:=Hi hG;have HFD:=Hi hF;clear hn hnp hnq hp hq hp8 hq8 hs hc hm hz hG hF her hmn;go_enter Tryz.func15,Tryz.ntmps15
 go_wp2_with fail
 with_reducible refine KN.out.mono ?_
 rintro e w1 ⟨⟨b0,rfl,hb0,hin0,hfr0,-⟩,hb1⟩;have HX1:=Hi (XA.out.trans hb1);have HR1:=Hi (hb1.blockAt HR0.out);obtain⟨CB0,hcb,hnb,h1b,hkb⟩:=b0.packed;rw[hcb];have IB:=Hi (infoBk hnb);have NB:=Hi hnb;have OB:=Hi h1b;have XB:Hid (Ext w1 (w1.alloc (.cells CB0 31))):=Hi ((Ext.refl w1).alloc _);have HB0:=Hi hb0;have HIN0:=Hi hin0;have HOF0:Hid (b0.Off (w.heap.size+1)):=Hi (hfr0.off (by simp));have HG0:Hid ((w1.alloc (.cells CB0 31)).heap[w1.heap.size]?=some (.cells b0.cells.toArray 31 (0,0))):=Hi (by rw[hkb];exact heap_alloc_new w1 _);have HR2:=Hi (XB.out.blockAt HR1.out);have hw1:w.heap.size+1<w1.heap.size:=blk_lt HR1.out;have HW1:=Hi hw1;clear hb0 hin0 hfr0 hb1 hcb hnb h1b hkb;by_cases h0:er=0;case neg =>
  have HZS:=Hi (setRow_heap _ _ _ #[.int .i64 0,.slice none 0 0,.slice none 0 0,.slice none 0 0,.slice none 0 0,.slice none 0 0,.slice none 0 0] _ _ HR2.out);have IZ:=Hi inZ;have OZ:Hid ((#[.int .i64 0,.slice none 0 0,.slice none 0 0,.slice none 0 0,.slice none 0 0,.slice none 0 0,.slice none 0 0]:Array Value).all (·.oneCell')=true):=Hi (by simp[Value.oneCell']);go_wp2_with (first
      | (with_reducible refine wpList_store_newN rfl 31 (.tmp 7) (.tmp 17) rfl (w1.heap.size) (by with_reducible rfl) _ CB0 31 (by with_unfolding_all rfl) (by with_unfolding_all rfl) IB.out (by with_unfolding_all exact NB.out.symm) OB.out ?_)
      | (with_reducible refine wpList_store_row rfl 31 (.tmp 4) (.tmp 21) rfl (w.heap.size+1) #[.int .i64 0,.slice none 0 0,.slice none 0 0,.slice none 0 0,.slice none 0 0,.slice none 0 0,.slice none 0 0] (by with_unfolding_all rfl) (by with_unfolding_all rfl) _ _ HR2.out IZ.out (by rfl) OZ.out ?_))
  refine bodyPost_ret (v:=.tuple #[.agg #[.int .i64 0,.slice none 0 0,.slice none 0 0,.slice none 0 0,.slice none 0 0,.slice none 0 0,.slice none 0 0],.slice none 0 0,.int .i64 er]) (results_ctt Tryz.results15 _ _ (w.heap.size+1) _ _ _ _ rfl HZS.out Tryz.underlying31 rfl IZ.out rfl rfl) rfl ?_;exact⟨⟨BankL.zero,none,0,0,[],rfl,rfl,fun e=>absurd e h0⟩,(HX1.out.trans XB.out).rowSet (by omega) _⟩
 subst h0;have HBN:Hid (b0.bank=nBank p.xs q.xs):=Hi (by have h:=HB0.out;rw[if_pos rfl]at h;exact h);go_wp2_with (with_reducible refine wpList_store_newN rfl 31 (.tmp 7) (.tmp 17) rfl (w1.heap.size) (by with_reducible rfl) _ CB0 31 (by with_unfolding_all rfl) (by with_unfolding_all rfl) IB.out (by with_unfolding_all exact NB.out.symm) OB.out ?_)
 with_reducible refine(KC.out _).mono ?_
 rintro e w2 ⟨rfl,rfl⟩;go_wp2;go_loopw [26,9] (fun i kv wr=>∃ (k:Nat) (b:BankL) (KA:Option Addr) (Kc nk:Nat) (K:List CmdL),k≤m∧nk≤k∧i=.int .i64 k∧kv=.slice KA nk Kc∧Hid (K.length=nk)∧Hid (wr.heap[w1.heap.size]?=some (.cells b.cells.toArray 31 (0,0)))∧Hid (b.In wr)∧Hid (b.Off (w.heap.size+1))∧Hid (OkAll (nBank p.xs q.xs) (cmds K))∧Hid (runB (nBank p.xs q.xs) (cmds K)=b.bank)∧Hid (RowX eCmd 48 wr w1.heap.size (.slice KA nk Kc) K)∧Hid (∀ x∈K,x∈l)∧Hid (Ext w1 wr)) (fun i _ _=>m-(intOf i).toNat)
 case atStart=>exact⟨0,b0,none,0,0,[],by omega,by omega,rfl,rfl,Hi rfl,HG0,Hi (HIN0.out.ext XB.out),HOF0,Hi (OkAll.nil _),Hi HBN.out.symm,Hi (RowX.nil _ _ _),Hi (fun x hx=>by cases hx),XB⟩
 case round =>
 obtain⟨k,b,KA,Kc,nk,K,hk,hnk,rfl,rfl,HKL,HGB,HIN,HOF,HOK,HRUN,HROW,HKS,HE⟩:=hrel;clear HG0 HIN0 HOF0 HBN;obtain⟨CB,hcb,hnb,h1b,hkb⟩:=b.packed;have IB2:=Hi (infoBk hnb);have OB2:=Hi h1b;have HB7:Hid (CB.size=7):=Hi hnb;by_cases hlt:k<m;case neg =>
  obtain rfl:k=m:=by omega
  have HGB2:Hid (wr.heap[w1.heap.size]?=some (.cells CB 31 (0,0))):=Hi (by rw[← hkb];exact HGB.out);have HR3:=Hi (HE.out.blockAt HR1.out);have HZS:=Hi (setRow_heap _ _ _ CB _ _ HR3.out);have HZ7:Hid ((#[.int .i64 0,.slice none 0 0,.slice none 0 0,.slice none 0 0,.slice none 0 0,.slice none 0 0,.slice none 0 0]:Array Value).size=CB.size):=Hi HB7.out.symm;have HROW2:Hid (RowX eCmd 48 (wr.setRow (w.heap.size+1) CB) w1.heap.size (.slice KA nk Kc) K):=Hi (HROW.out.keepT HR3.out (by decide) (fun x hx=>(HS.out.ins x (HKS.out x hx)).off (Nat.le_succ _)) (But.setRow _ _ _));go_wp2_with (first
      | (with_reducible refine wpList_load_row rfl 31 (.tmp 7) rfl (w1.heap.size) (by with_unfolding_all rfl) _ CB _ _ HGB2.out Tryz.underlying31 rfl IB2.out ?_)
      | (with_reducible refine wpList_store_row rfl 31 (.tmp 4) (.tmp 44) rfl (w.heap.size+1) CB (by with_unfolding_all rfl) (by with_unfolding_all rfl) _ _ HR3.out IB2.out HZ7.out OB2.out ?_))
  refine bodyPost_ret (v:=.tuple #[.agg CB,.slice KA nk Kc,.int .i64 0]) (results_ctt Tryz.results15 _ _ (w.heap.size+1) _ _ _ _ rfl HZS.out Tryz.underlying31 rfl IB2.out rfl rfl) rfl ?_;rw[← hcb];obtain⟨s1,s2,s3,s4⟩:=HROW2.out.slx;exact⟨⟨b,KA,Kc,nk,K,rfl,HKL.out,fun _=>⟨HOK.out,HRUN.out,by omega,HIN.out.but HOF.out (But.setRow _ _ _),s1,by omega,s4,fun x hx=>HZ.out x (HKS.out x hx)⟩⟩,(HX1.out.trans HE.out).rowSet (by omega) _⟩
 obtain⟨x,hx⟩:∃ x,l[k]?=some x:=⟨_,List.getElem?_eq_getElem (by have:=HNL.out;omega)⟩;obtain⟨bb,off,rfl,hbl,hrg,hxin⟩:=(HS.out.ext (HX1.out.trans HE.out)).at_ hx;obtain⟨CC,hcc,hnc,h1c⟩:=x.packed;have HRG:Hid (wr.rangeAt bb (off+k*32) CC.toList):=Hi (by rw[← hcc];exact hrg);have IC:=Hi (infoCm hnc);have NC:=Hi hnc;have OC:=Hi h1c;have ki0:(0:Int)≤(k:Int):=by omega
 have ki1:(k:Int)<(m:Int):=by omega
 have XC:Hid (Ext wr (wr.alloc (.cells CC 48))):=Hi ((Ext.refl wr).alloc _);have HGB2:Hid ((wr.alloc (.cells CC 48)).heap[w1.heap.size]?=some (.cells CB 31 (0,0))):=Hi (XC.out.blockAt (by rw[← hkb];exact HGB.out));have HGC:Hid ((wr.alloc (.cells CC 48)).heap[wr.heap.size]?=some (.cells CC 48 (0,0))):=Hi (heap_alloc_new wr _);have HXW:=Hi (HX1.out.trans (HE.out.trans XC.out));obtain⟨er2,bo,hr⟩:∃ (e2:Int) (bo:Bank),aplE b.bank x.cmd=(e2,bo):=⟨_,_,rfl⟩;have HINV:Hid (Inv nk b.bank):=Hi (by have h:=inv_run HOK.out HI0.out (cmds_sz fun x hx=>HZ.out x (HKS.out x hx));rw[HRUN.out,cmds_len,HKL.out]at h;exact h)
 have KA_:=Hi (apply_any nk b x CC (wr.alloc (.cells CC 48)) hcc (HIN.out.ext XC.out) HINV.out (by omega) (hxin.ext XC.out) (HZ.out x (List.mem_of_getElem? hx)) (HGM.out.ext HXW.out) (HFD.out.ext HXW.out) hr);rw[hcb]at KA_;have HR:=Hi hr;have HXL:=Hi (List.mem_of_getElem? hx);have HCC:=Hi hcc;clear hx hbl hrg hxin hcc hnc h1c hcb hnb h1b hkb hr;go_wp2_with (first
       | (with_reducible refine wpList_load_arr rfl 48 (.tmp 28) rfl (bb) (off+k*32) (by with_unfolding_all rfl) CC _ HRG.out Tryz.underlying48 rfl IC.out ?_)
       | (with_reducible refine wpList_store_newN rfl 48 (.tmp 11) (.tmp 29) rfl (wr.heap.size) (by with_reducible rfl) _ CC 48 (by with_unfolding_all rfl) (by with_unfolding_all rfl) IC.out (by with_unfolding_all exact NC.out.symm) OC.out ?_)
       | (with_reducible refine wpList_load_row rfl 31 (.tmp 7) rfl (w1.heap.size) (by with_unfolding_all rfl) _ CB _ _ HGB2.out Tryz.underlying31 rfl IB2.out ?_)
       | (with_reducible refine wpList_load_row rfl 48 (.tmp 11) rfl (wr.heap.size) (by with_unfolding_all rfl) _ CC _ _ HGC.out Tryz.underlying48 rfl IC.out ?_))
 with_reducible refine KA_.out.mono ?_
 rintro e w3 ⟨⟨b2,rfl,hb2,hin2,hfr2⟩,hb3⟩;obtain⟨CN,hcn,hnn,h1n,hkn⟩:=b2.packed;rw[hcn];have IN_:=Hi (infoBk hnn);have NN:=Hi hnn;have ON:=Hi h1n;have XN:Hid (Ext w3 (w3.alloc (.cells CN 31))):=Hi ((Ext.refl w3).alloc _);have HX3:=Hi (hb3.trans XN.out);have HXR:=Hi (XC.out.trans HX3.out);by_cases h2:er2=0;case neg =>
  clear hb2 hin2 hfr2 hb3 hcn hnn h1n hkn;go_wp2_with (with_reducible refine wpList_store_newN rfl 31 (.tmp 12) (.tmp 34) rfl (w3.heap.size) (by with_reducible rfl) _ CN 31 (by with_unfolding_all rfl) (by with_unfolding_all rfl) IN_.out (by with_unfolding_all exact NN.out.symm) ON.out ?_)
  go_roundw;case rel=>exact⟨k+1,b,KA,Kc,nk,K,by omega,by omega,by go_num,rfl,HKL,Hi (HXR.out.blockAt HGB.out),Hi (HIN.out.ext HXR.out),HOF,HOK,HRUN,Hi (HROW.out.ext HXR.out),HKS,Hi (HE.out.trans HXR.out)⟩
  case measure=>simp[intOf];omega
 subst h2;have HN7:Hid (CB.size=CN.size):=Hi (by rw[HB7.out,hnn]);have HGN:Hid ((w3.alloc (.cells CN 31)).heap[w3.heap.size]?=some (.cells CN 31 (0,0))):=Hi (heap_alloc_new w3 _);have HGB3:Hid ((w3.alloc (.cells CN 31)).heap[w1.heap.size]?=some (.cells CB 31 (0,0))):=Hi (HX3.out.blockAt HGB2.out);have HB2:Hid (b2.bank=bo):=Hi hb2;have HFR2:Hid (b2.From (wr.heap.size+1)):=Hi (by have h:=hfr2;simpa using h);have HKN:=Hi hkn;have hwr:w1.heap.size<wr.heap.size:=blk_lt HGB.out;obtain⟨W5,hW5⟩:∃ W,(w3.alloc (.cells CN 31)).setRow w1.heap.size CN=W:=⟨_,rfl⟩;have HBUT:Hid (But w1.heap.size (w3.alloc (.cells CN 31)) W5):=Hi (by rw[← hW5];exact But.setRow _ _ _);have HX5:Hid (Ext w1 W5):=Hi (by rw[← hW5];exact(HE.out.trans HXR.out).rowSet (Nat.le_refl _) _);have HG5:Hid (W5.heap[w1.heap.size]?=some (.cells CN 31 (0,0))):=Hi (by rw[← hW5];exact setRow_heap _ _ _ _ _ _ HGB3.out);have HC5:Hid (W5.heap[wr.heap.size]?=some (.cells CC 48 (0,0))):=Hi (by rw[HBUT.out.2 _ (blk_lt (HX3.out.blockAt HGC.out)) (by omega)];exact HX3.out.blockAt HGC.out)
 have HIN5:Hid (b2.In W5):=Hi ((hin2.ext XN.out).but (HFR2.out.off (by omega)) HBUT.out);have HK5:Hid (∀ x∈K,x.In w):=Hi (fun x hx=>HS.out.ins x (HKS.out x hx));have HROW5:Hid (RowX eCmd 48 W5 w1.heap.size (.slice KA nk Kc) K):=Hi ((HROW.out.ext HXR.out).keepT HGB3.out (by decide) (fun x hx=>(HK5.out x hx).off (by omega)) HBUT.out);have HXI:Hid (x.In w):=Hi (HS.out.ins x HXL.out);obtain⟨A5,c5,w6,hrun,hrow6,hgr6⟩:=cmd_app (CC:=CC) HROW5.out HKL.out (HXI.out.ext (HX1.out.trans HX5.out)) HCC.out (fun g hg=>HXI.out.off (by have:=own_ge HROW5.out.own g hg;omega)) HX5.out.size (by omega)
 have HBU:=Hi (built_cmd CC NC.out);have HW5:=Hi hW5;have HRUN6:Hid ((Builtin.append_ #[25,25] 25 #[.slice KA nk Kc,.slice (some ⟨W5.heap.size,0,none⟩) 1 1]).run Tryz.prog (W5.alloc (.cells CC 48))=.ok (.slice A5 (nk+1) c5) w6):=Hi hrun;have HROW6:=Hi hrow6;have XA5:Hid (Ext W5 (W5.alloc (.cells CC 48))):=Hi ((Ext.refl W5).alloc _);have hgb6:∃ q,w1.heap.size<q∧q<wr.heap.size+1∧But q (W5.alloc (.cells CC 48)) w6:=by
  cases ho:(Value.slice KA nk Kc).ownBlock with
  | none=>rw[ho]at hgr6;exact⟨wr.heap.size,hwr,by omega,But.ext _ (grown_none hgr6)⟩
  | some q =>
   rw[ho]at hgr6;refine⟨q,?_,?_,But.grown hgr6⟩
   · have h1:=own_ge HROW5.out.own q ho;have h3:q≠w1.heap.size:=fun e=>own_other HROW5.out.own HG5.out (by decide) (by rw[ho,e]);omega
   · have:=own_lt HROW.out.own q ho;omega
 obtain⟨gq,hq1,hq2,hbq⟩:=hgb6;have HG6:Hid (w6.heap[w1.heap.size]?=some (.cells b2.cells.toArray 31 (0,0))):=Hi (by rw[hbq.2 _ (blk_lt (XA5.out.blockAt HG5.out)) (by omega),hkn];exact XA5.out.blockAt HG5.out)
 have HIN6:Hid (b2.In w6):=Hi ((HIN5.out.ext XA5.out).but (HFR2.out.off hq2) hbq);have HOF6:Hid (b2.Off (w.heap.size+1)):=Hi (HFR2.out.off (by omega));have HX6:Hid (Ext w1 w6):=Hi ((HX5.out.trans XA5.out).grown hgr6 (fun g hg=>own_ge HROW5.out.own g hg));have HOK6:Hid (OkAll (nBank p.xs q.xs) (cmds (K ++ [x]))):=Hi (by rw[cmds_snoc];exact HOK.out.snoc (by rw[HRUN.out,HR.out]))
 have HRN6:Hid (runB (nBank p.xs q.xs) (cmds (K ++ [x]))=b2.bank):=Hi (by rw[cmds_snoc,runB_snoc,HRUN.out,HR.out,HB2.out])
 have HKL6:Hid ((K ++ [x]).length=nk+1):=Hi (by rw[List.length_append,HKL.out,List.length_singleton]);have HKS6:Hid (∀ y∈K ++ [x],y∈l):=Hi (fun y hy=>by
  rcases List.mem_append.1 hy with hy | hy
  · exact HKS.out y hy
  · rw[List.mem_singleton]at hy;rw[hy];exact HXL.out)
 clear hb2 hin2 hfr2 hb3 hcn hnn h1n hkn hW5 hrun hrow6 hgr6 hbq hq1 hq2;go_wp2_with (first
       | (with_reducible refine wpList_store_newN rfl 31 (.tmp 12) (.tmp 34) rfl (w3.heap.size) (by with_reducible rfl) _ CN 31 (by with_unfolding_all rfl) (by with_unfolding_all rfl) IN_.out (by with_unfolding_all exact NN.out.symm) ON.out ?_)
       | (with_reducible refine wpList_load_row rfl 31 (.tmp 12) rfl (w3.heap.size) (by with_unfolding_all rfl) _ CN _ _ HGN.out Tryz.underlying31 rfl IN_.out ?_)
       | (with_reducible refine wpList_store_row rfl 31 (.tmp 7) (.tmp 38) rfl (w1.heap.size) CN (by with_unfolding_all rfl) (by with_unfolding_all rfl) _ _ HGB3.out IN_.out HN7.out ON.out ?_;rw[HW5.out])
       | (with_reducible refine wpList_load_row rfl 48 (.tmp 11) rfl (wr.heap.size) (by with_unfolding_all rfl) _ CC _ _ HC5.out Tryz.underlying48 rfl IC.out ?_)
       | (with_reducible refine Go.Great.wpList_buildSliceTo rfl 25 48 1 _ rfl W5.heap.size rfl _ rfl Tryz.underlying25 CC (by with_unfolding_all exact HBU.out) ?_)
       | (at_builtin;refine Lib.wpList_append_run _ rfl _ _ _ _ rfl _ _ rfl rfl _ _ HRUN6.out ?_))
 go_roundw;case rel=>exact⟨k+1,b2,A5,c5,nk+1,K ++ [x],by omega,by omega,by go_num,rfl,HKL6,HG6,HIN6,HOF6,HOK6,HRN6,HROW6,HKS6,HX6⟩
 case measure=>simp[intOf];omega

end Bk
set_option maxRecDepth 100000
set_option maxHeartbeats 51200000
open Go.RowKit
namespace Bk
def RetRp (N:Nat)(bo:Bank)(n:Nat)(e:Ending)(w':World):Prop:=∃ b:BankL,e=.returned (.tuple #[b.agg,.int .i64 n,.int .i64 0])∧b.bank=bo∧b.In w'∧b.From N
theorem bReplay_any(p q:IL)(A:Option Addr)(c n np nq:Nat)(l:List CmdL)(w:World)(hn:l.length=n)(hnp:p.xs.length=np)(hnq:q.xs.length=nq)(hp:p.In w)(hq:q.In w)(hp8:np*8≤140737488355328)(hq8:nq*8≤140737488355328)(hs:SlX eCmd w A l)(hl:n≤100)(hz:∀ x∈l,CmdSz x.cmd)(hG:Gm w)(hF:Fld w)(her:Gv.gridE p.xs q.xs=0)(hok:OkAll (nBank p.xs q.xs) (cmds l)){bo:Bank}(hbo:runB (nBank p.xs q.xs) (cmds l)=bo) :
    Calls Tryz.prog 16 #[.agg #[.slice p.A np p.c,.slice q.A nq q.c],.slice A n c] w fun e w'=>RetRp w.heap.size bo n e w'∧Ext w w':=by
 have XA:Hid (Ext w ((w.alloc (.cells #[.slice p.A np p.c,.slice q.A nq q.c] 24)).alloc (.cells #[.int .i64 0,.slice none 0 0,.slice none 0 0,.slice none 0 0,.slice none 0 0,.slice none 0 0,.slice none 0 0] 31))):=Hi (((Ext.refl w).alloc _).alloc _);have HR0:Hid (((w.alloc (.cells #[.slice p.A np p.c,.slice q.A nq q.c] 24)).alloc (.cells #[.int .i64 0,.slice none 0 0,.slice none 0 0,.slice none 0 0,.slice none 0 0,.slice none 0 0,.slice none 0 0] 31)).heap[w.heap.size+1]?=some (.cells #[.int .i64 0,.slice none 0 0,.slice none 0 0,.slice none 0 0,.slice none 0 0,.slice none 0 0,.slice none 0 0] 31 (0,0))):=Hi (heap_new_at _ _ _ (by simp));have KN:=Hi (bNew_any p q hnp hnq her _ (hp.ext XA.out) (hq.ext XA.out) hp8 hq8);have HI0:Hid (Inv 0 (nBank p.xs q.xs)):=Hi (Inv.new (by rw[hnp];exact hp8) (by rw[hnq];exact hq8));have HS:Hid (SlX eCmd w A l):=Hi hs;have HNL:Hid (l.length=n):=Hi hn;have HZ:=Hi hz;have HGM:=Hi hG;have HFD:=Hi hF;have HOK:=Hi hok;have HBO:=Hi hbo;clear hn hnp hnq hp hq hp8 hq8 hs hz hG hF her hok hbo;go_enter Tryz.func16,Tryz.ntmps16
 go_wp2_with fail
 with_reducible refine KN.out.mono ?_
 rintro e w1 ⟨⟨b0,rfl,hb0,hin0,hfr0,-⟩,hb1⟩;have HX1:=Hi (XA.out.trans hb1);have HR1:=Hi (hb1.blockAt HR0.out);obtain⟨CB0,hcb,hnb,h1b,hkb⟩:=b0.packed;rw[hcb];have IB:=Hi (infoBk hnb);have NB:=Hi hnb;have OB:=Hi h1b;have XB:Hid (Ext w1 (w1.alloc (.cells CB0 31))):=Hi ((Ext.refl w1).alloc _);have HBN:Hid (b0.bank=nBank p.xs q.xs):=Hi (by simpa using hb0);have HIN0:=Hi hin0;have HOF0:Hid (b0.From (w.heap.size+1+1)):=Hi (hfr0.mono (by simp));have HG0:Hid ((w1.alloc (.cells CB0 31)).heap[w1.heap.size]?=some (.cells b0.cells.toArray 31 (0,0))):=Hi (by rw[hkb];exact heap_alloc_new w1 _);have hw1:w.heap.size+1<w1.heap.size:=blk_lt HR1.out;clear hb0 hin0 hfr0 hb1 hcb hnb h1b hkb;go_wp2_with (with_reducible refine wpList_store_newN rfl 31 (.tmp 7) (.tmp 16) rfl (w1.heap.size) (by with_reducible rfl) _ CB0 31 (by with_unfolding_all rfl) (by with_unfolding_all rfl) IB.out (by with_unfolding_all exact NB.out.symm) OB.out ?_)
 go_loopw [24] (fun i wr=>∃ (k:Nat) (b:BankL),k≤n∧i=.int .i64 k∧Hid (wr.heap[w1.heap.size]?=some (.cells b.cells.toArray 31 (0,0)))∧Hid (b.In wr)∧Hid (b.From (w.heap.size+1+1))∧Hid (runB (nBank p.xs q.xs) ((cmds l).take k)=b.bank)∧Hid (Ext w1 wr)) (fun i _=>n-(intOf i).toNat)
 case atStart=>exact⟨0,b0,by omega,rfl,HG0,Hi (HIN0.out.ext XB.out),HOF0,Hi (by rw[List.take_zero];exact HBN.out.symm),XB⟩
 case round =>
 obtain⟨k,b,hk,rfl,HGB,HIN,HOF,HRUN,HE⟩:=hrel;clear HG0 HIN0 HOF0 HBN;obtain⟨CB,hcb,hnb,h1b,hkb⟩:=b.packed;have IB2:=Hi (infoBk hnb);have OB2:=Hi h1b;have HB7:Hid (CB.size=7):=Hi hnb;by_cases hlt:k<n;case neg =>
  obtain rfl:k=n:=by omega
  have HGB2:Hid (wr.heap[w1.heap.size]?=some (.cells CB 31 (0,0))):=Hi (by rw[← hkb];exact HGB.out);have HR3:=Hi (HE.out.blockAt HR1.out);have HZS:=Hi (setRow_heap _ _ _ CB _ _ HR3.out);have HZ7:Hid ((#[.int .i64 0,.slice none 0 0,.slice none 0 0,.slice none 0 0,.slice none 0 0,.slice none 0 0,.slice none 0 0]:Array Value).size=CB.size):=Hi HB7.out.symm;go_wp2_with (first
      | (with_reducible refine wpList_load_row rfl 31 (.tmp 7) rfl (w1.heap.size) (by with_unfolding_all rfl) _ CB _ _ HGB2.out Tryz.underlying31 rfl IB2.out ?_)
      | (with_reducible refine wpList_store_row rfl 31 (.tmp 4) (.tmp 42) rfl (w.heap.size+1) CB (by with_unfolding_all rfl) (by with_unfolding_all rfl) _ _ HR3.out IB2.out HZ7.out OB2.out ?_))
  refine bodyPost_ret (v:=.tuple #[.agg CB,.int .i64 k,.int .i64 0]) (results_ctt Tryz.results16 _ _ (w.heap.size+1) _ _ _ _ rfl HZS.out Tryz.underlying31 rfl IB2.out rfl rfl) rfl ?_;rw[← hcb];have hb:b.bank=bo:=by rw[← HBO.out,← HRUN.out,← HNL.out,← cmds_len,List.take_length]
  exact⟨⟨b,rfl,hb,HIN.out.but (HOF.out.off (by omega)) (But.setRow _ _ _),HOF.out.mono (by omega)⟩,(HX1.out.trans HE.out).rowSet (by omega) _⟩
 obtain⟨x,hx⟩:∃ x,l[k]?=some x:=⟨_,List.getElem?_eq_getElem (by have:=HNL.out;omega)⟩;obtain⟨bb,off,rfl,hbl,hrg,hxin⟩:=(HS.out.ext (HX1.out.trans HE.out)).at_ hx;obtain⟨CC,hcc,hnc,h1c⟩:=x.packed;have HRG:Hid (wr.rangeAt bb (off+k*32) CC.toList):=Hi (by rw[← hcc];exact hrg);have IC:=Hi (infoCm hnc);have NC:=Hi hnc;have OC:=Hi h1c;have ki0:(0:Int)≤(k:Int):=by omega
 have ki1:(k:Int)<(n:Int):=by omega
 have XC:Hid (Ext wr (wr.alloc (.cells CC 48))):=Hi ((Ext.refl wr).alloc _);have HGB2:Hid ((wr.alloc (.cells CC 48)).heap[w1.heap.size]?=some (.cells CB 31 (0,0))):=Hi (XC.out.blockAt (by rw[← hkb];exact HGB.out));have HGC:Hid ((wr.alloc (.cells CC 48)).heap[wr.heap.size]?=some (.cells CC 48 (0,0))):=Hi (heap_alloc_new wr _);have HXW:=Hi (HX1.out.trans (HE.out.trans XC.out));have HINV:Hid (Inv ((cmds l).take k).length b.bank):=Hi (by have h:=inv_run (HOK.out.take k) HI0.out (fun c hc=>cmds_sz (fun x hx=>HZ.out x hx) c (List.take_subset _ _ hc));rw[HRUN.out]at h;exact h)
 have hr0:(aplE b.bank x.cmd).1=0:=by rw[← HRUN.out];exact HOK.out k x.cmd (cmds_at hx)
 obtain⟨bo2,hr⟩:∃ (bo:Bank),aplE b.bank x.cmd=(0,bo):=⟨_,Prod.ext hr0 rfl⟩;have hlen:((cmds l).take k).length≤900:=by rw[List.length_take];omega
 have KA_:=Hi (apply_any _ b x CC (wr.alloc (.cells CC 48)) hcc (HIN.out.ext XC.out) HINV.out hlen (hxin.ext XC.out) (HZ.out x (List.mem_of_getElem? hx)) (HGM.out.ext HXW.out) (HFD.out.ext HXW.out) hr);rw[hcb]at KA_;have HRUN2:Hid (runB (nBank p.xs q.xs) ((cmds l).take (k+1))=bo2):=Hi (by rw[runB_next _ (cmds_at hx),HRUN.out,hr]);clear hx hbl hrg hxin hcc hnc h1c hcb hnb h1b hkb hr hr0 hlen;go_wp2_with (first
       | (with_reducible refine wpList_load_arr rfl 48 (.tmp 27) rfl (bb) (off+k*32) (by with_unfolding_all rfl) CC _ HRG.out Tryz.underlying48 rfl IC.out ?_)
       | (with_reducible refine wpList_store_newN rfl 48 (.tmp 10) (.tmp 28) rfl (wr.heap.size) (by with_reducible rfl) _ CC 48 (by with_unfolding_all rfl) (by with_unfolding_all rfl) IC.out (by with_unfolding_all exact NC.out.symm) OC.out ?_)
       | (with_reducible refine wpList_load_row rfl 31 (.tmp 7) rfl (w1.heap.size) (by with_unfolding_all rfl) _ CB _ _ HGB2.out Tryz.underlying31 rfl IB2.out ?_)
       | (with_reducible refine wpList_load_row rfl 48 (.tmp 10) rfl (wr.heap.size) (by with_unfolding_all rfl) _ CC _ _ HGC.out Tryz.underlying48 rfl IC.out ?_))
 with_reducible refine KA_.out.mono ?_
 rintro e w3 ⟨⟨b2,rfl,hb2,hin2,hfr2⟩,hb3⟩;obtain⟨CN,hcn,hnn,h1n,hkn⟩:=b2.packed;rw[hcn];have IN_:=Hi (infoBk hnn);have NN:=Hi hnn;have ON:=Hi h1n;have XN:Hid (Ext w3 (w3.alloc (.cells CN 31))):=Hi ((Ext.refl w3).alloc _);have HX3:=Hi (hb3.trans XN.out);have HXR:=Hi (XC.out.trans HX3.out);have HN7:Hid (CB.size=CN.size):=Hi (by rw[HB7.out,hnn]);have HGN:Hid ((w3.alloc (.cells CN 31)).heap[w3.heap.size]?=some (.cells CN 31 (0,0))):=Hi (heap_alloc_new w3 _);have HGB3:Hid ((w3.alloc (.cells CN 31)).heap[w1.heap.size]?=some (.cells CB 31 (0,0))):=Hi (HX3.out.blockAt HGB2.out);have HB2:Hid (b2.bank=bo2):=Hi hb2;have HFR2:Hid (b2.From (wr.heap.size+1)):=Hi (by have h:=hfr2;simpa using h);have HKN:=Hi hkn;have hwr:w1.heap.size<wr.heap.size:=blk_lt HGB.out;have HIN2:Hid (b2.In (w3.alloc (.cells CN 31))):=Hi (hin2.ext XN.out);clear hb2 hin2 hfr2 hb3 hcn hnn h1n hkn;go_wp2_with (first
       | (with_reducible refine wpList_store_newN rfl 31 (.tmp 11) (.tmp 33) rfl (w3.heap.size) (by with_reducible rfl) _ CN 31 (by with_unfolding_all rfl) (by with_unfolding_all rfl) IN_.out (by with_unfolding_all exact NN.out.symm) ON.out ?_)
       | (with_reducible refine wpList_load_row rfl 31 (.tmp 11) rfl (w3.heap.size) (by with_unfolding_all rfl) _ CN _ _ HGN.out Tryz.underlying31 rfl IN_.out ?_)
       | (with_reducible refine wpList_store_row rfl 31 (.tmp 7) (.tmp 40) rfl (w1.heap.size) CN (by with_unfolding_all rfl) (by with_unfolding_all rfl) _ _ HGB3.out IN_.out HN7.out ON.out ?_))
 go_roundw;case rel=>exact⟨k+1,b2,by omega,by go_num,Hi (by rw[HKN.out];exact setRow_heap _ _ _ _ _ _ HGB3.out),Hi (HIN2.out.but (HFR2.out.off (by omega)) (But.setRow _ _ _)),Hi (HFR2.out.mono (by omega)),Hi (by rw[HRUN2.out,HB2.out]),Hi ((HE.out.trans HXR.out).rowSet (Nat.le_refl _) _)⟩
 case measure=>simp[intOf];omega

end Bk
set_option maxRecDepth 100000
set_option maxHeartbeats 51200000
open Go.RowKit
namespace Bk
theorem infoRv5{CS:Array Value}(h:CS.size=5):(Tryz.prog.info? 54).map (·.size)=some CS.size:=by rw[h];kernel_rfl
theorem approved_any(r:RvL){a b f:Int}(w:World)(h:r.In w)(h1:r.ap.xs=[a,b])(h2:r.fa.xs=[f])(hab:a≠b)(hfa:f≠a)(hfb:f≠b)(hfu:f≠r.au)(hau:a≠r.au)(hbu:b≠r.au) :
    Calls Tryz.prog 17 #[r.agg] w fun e w'=>e=.returned (.bool true)∧Ext w w':=by
 obtain⟨CR,hcr,hnr,-,hkr⟩:=r.packed;rw[hcr];have XA:Hid (Ext w (w.alloc (.cells CR 54))):=Hi ((Ext.refl w).alloc _);have HG:Hid ((w.alloc (.cells CR 54)).heap[w.heap.size]?=some (.cells CR 54 (0,0))):=Hi (heap_alloc_new w _);obtain⟨bp,op,hPA,-,ha0⟩:=Sl.at_ (i:=0) (cs:=[.int .i64 a]) (h.ap.1.ext XA.out) (by rw[h1];rfl);obtain⟨bp',op',hPA',-,hb0⟩:=Sl.at_ (i:=1) (cs:=[.int .i64 b]) (h.ap.1.ext XA.out) (by rw[h1];rfl);obtain⟨bq,oq,hQA,-,hf0⟩:=Sl.at_ (i:=0) (cs:=[.int .i64 f]) (h.fa.1.ext XA.out) (by rw[h2];rfl);rw[hPA]at hPA';injection hPA' with hPA';injection hPA' with e1 e2 _;subst e1 e2;have a0:(w.alloc (.cells CR 54)).cell? ⟨bp,op,none⟩=some (.int .i64 a):=ha0 0 _ rfl;have b0:(w.alloc (.cells CR 54)).cell? ⟨bp,op+1,none⟩=some (.int .i64 b):=hb0 0 _ rfl;have f0:(w.alloc (.cells CR 54)).cell? ⟨bq,oq,none⟩=some (.int .i64 f):=hf0 0 _ rfl;have c1:(w.alloc (.cells CR 54)).cell? ⟨w.heap.size,1,none⟩=some (.int .i64 r.au):=(cell_of_row _ _ 1 _ _ _ HG.out).trans (by rw[← hkr];rfl);have c2:(w.alloc (.cells CR 54)).cell? ⟨w.heap.size,2,none⟩=some (.slice (some ⟨bp,op,none⟩) 2 r.ap.c):=(cell_of_row _ _ 2 _ _ _ HG.out).trans (by rw[← hkr];show some (Value.slice r.ap.A r.ap.xs.length r.ap.c)=_;rw[hPA,h1];rfl)
 have c3:(w.alloc (.cells CR 54)).cell? ⟨w.heap.size,3,none⟩=some (.slice (some ⟨bq,oq,none⟩) 1 r.fa.c):=(cell_of_row _ _ 3 _ _ _ HG.out).trans (by rw[← hkr];show some (Value.slice r.fa.A r.fa.xs.length r.fa.c)=_;rw[hQA,h2];rfl)
 obtain⟨u,hu⟩:∃ u,r.au=u:=⟨_,rfl⟩;obtain⟨pc,hpc⟩:∃ u,r.ap.c=u:=⟨_,rfl⟩;obtain⟨qc,hqc⟩:∃ u,r.fa.c=u:=⟨_,rfl⟩;rw[hu]at c1 hfu hau hbu;rw[hpc]at c2;rw[hqc]at c3;have t1:(a == b)=false:=by rw[beq_eq_false_iff_ne];exact hab
 have t2:(f != a)=true:=by rw[bne_iff_ne];exact hfa
 have t3:(f != b)=true:=by rw[bne_iff_ne];exact hfb
 have t4:(f != u)=true:=by rw[bne_iff_ne];exact hfu
 have t5:(a != u)=true:=by rw[bne_iff_ne];exact hau
 have t6:(b != u)=true:=by rw[bne_iff_ne];exact hbu
 clear h h1 h2 ha0 hb0 hf0 hPA hQA hcr hnr hkr hu hpc hqc hab hfa hfb hfu hau hbu;go_enter Tryz.func17,Tryz.ntmps17
 go_wp2_with fail
 go_quiet (fail)
 go_wp2_with fail
 go_quiet (fail)
 go_wp2;go_ret;exact⟨rfl,(XA.out.drewN _).drewN _⟩
def RpJ (N1:Nat)(bo:Bank)(nk:Nat)(l:Nat→Bool)(U:Nat→Option Value)(w:World):Prop:=l 4=true→∃ B:BankL,U 65=some (.tuple #[B.agg,.int .i64 nk,.int .i64 0])∧B.bank=bo∧B.In w ∧
 (l 5=true→U 60=some (.tuple #[B.agg,.int .i64 nk,.int .i64 0]))∧(l 6=true→U 66=some B.agg)∧(l 9=true→∃ g,U 12=some (.pointer (some ⟨g,0,none⟩))∧B.Off g) ∧
 (l 10=true→∃ g,U 12=some (.pointer (some ⟨g,0,none⟩))∧N1≤g∧w.heap[g]?=some (.cells B.cells.toArray 31 (0,0)))
theorem RpJ.keep{N1:Nat}{bo:Bank}{nk:Nat}{l l':Nat→Bool}{U U':Nat→Option Value}{w:World}(h:RpJ N1 bo nk l U w)(h4:l' 4=l 4)(h5:l' 5=l 5)(h6:l' 6=l 6)(h9:l' 9=l 9)(h10:l' 10=l 10)(u1:U' 65=U 65)(u2:U' 60=U 60)(u3:U' 66=U 66)(u4:U' 12=U 12):RpJ N1 bo nk l' U' w:=by unfold RpJ at h ⊢;rw[h4,h5,h6,h9,h10,u1,u2,u3,u4];exact h
def rpvL (_n0 N1 nk ta c:Nat)(CG:Array Value)(A:Option Addr):List (Option Value→World→Prop):=[sv (.agg CG),
 sv (.slice A nk c),
 sv (.int .i64 (ta:Int)),
 sv (.slice A ta c),
 fun _ _=>True,
 fun _ _=>True,
 fun _ _=>True,
 sv (.int .i64 (ta:Int)),
 sv (.int .i64 0),
 fun u w=>∃ g:Nat,
 u=some (.pointer (some ⟨g,0,none⟩))∧N1≤g∧w.heap[g]?=some (.cells #[.int .i64 0,.slice none 0 0,.slice none 0 0,.slice none 0 0,.slice none 0 0,.slice none 0 0,.slice none 0 0] 31 (0,0)),
 fun _ _=>True,
 sv (.int .i64 (ta:Int)),
 sv (.int .i64 0)]
theorem rpvL_mono(n0 N1 nk ta c:Nat)(CG:Array Value)(A:Option Addr):AllMono (rpvL n0 N1 nk ta c CG A):=⟨mono_val _,mono_val _,mono_val _,mono_val _,(fun _ _ _ _ h=>h),(fun _ _ _ _ h=>h),(fun _ _ _ _ h=>h),mono_val _,mono_val _,(fun _ _ _ he h=>h.elim fun W h=>⟨W,h.1,h.2.1,he.blockAt h.2.2⟩),(fun _ _ _ _ h=>h),mono_val _,mono_val _,trivial⟩
def rpvD:List Nat:=[61,62,63,64,65,60,66,67,68,12,900,13,9]
def rpvC (j:Nat):Option Nat:=if j=9 then some 10 else none
def rpvE (n0 nk ta c:Nat)(A:Option Addr)(t:Array Value):Prop:=t.getD 2 undef=.int .i64 (ta:Int)∧t.getD 3 undef=.pointer (some ⟨n0,0,none⟩)∧t.getD 8 undef=.slice A nk c∧t.size=111

theorem replay_any(p q:IL)(A:Option Addr)(c n np nq:Nat)(l:List CmdL)(x2:Int)(w:World)(hn:l.length=n)(hnp:p.xs.length=np)(hnq:q.xs.length=nq)(hp:p.In w)(hq:q.In w)(hp8:np*8≤140737488355328)(hq8:nq*8≤140737488355328)(hs:SlX eCmd w A l)(hc:n≤c)(hm:c≤maxLen)(hz:∀ x∈l,CmdSz x.cmd)(hG:Gm w)(hF:Fld w) :
    Calls Tryz.prog 4 #[.agg #[.slice p.A np p.c,.slice q.A nq q.c],.slice A n c,.int .i64 x2] w fun e w'=>e=.returned (.bool true)∧Ext w w':=by
 obtain⟨er,her⟩:∃ v,Gv.gridE p.xs q.xs=v:=⟨_,rfl⟩;have XA:Hid (Ext w (w.alloc (.cells #[.slice p.A np p.c,.slice q.A nq q.c] 24))):=Hi ((Ext.refl w).alloc _);have KACC:=Hi (accepted_any p q A c n np nq l _ hn hnp hnq (hp.ext XA.out) (hq.ext XA.out) hp8 hq8 (hs.ext XA.out) hc hm hz (hG.ext XA.out) (hF.ext XA.out) her);have KRP:=Hi (fun(KA:Option Addr) (Kc m:Nat) (K:List CmdL) (W:World) (hx:Ext w W) (hm:K.length=m) (hs:SlX eCmd W KA K) (hl:m≤100) (hz:∀ x∈K,CmdSz x.cmd) (h0:er=0) (hok:OkAll (nBank p.xs q.xs) (cmds K))=>bReplay_any p q KA Kc m np nq K W hm hnp hnq (hp.ext hx) (hq.ext hx) hp8 hq8 hs hl hz (hG.ext hx) (hF.ext hx) (her.trans h0) hok (bo:=runB (nBank p.xs q.xs) (cmds K)) rfl);have HI0:Hid (Inv 0 (nBank p.xs q.xs)):=Hi (Inv.new (by rw[hnp];exact hp8) (by rw[hnq];exact hq8));have HVB0:Hid (er=0→Vb (nBank p.xs q.xs)):=Hi (fun h=>Vb.new (her.trans h));have HG0:Hid ((w.alloc (.cells #[.slice p.A np p.c,.slice q.A nq q.c] 24)).heap[w.heap.size]?=some (.cells #[.slice p.A np p.c,.slice q.A nq q.c] 24 (0,0))):=Hi (heap_alloc_new w _);obtain⟨CG,hcg⟩:∃ C,(#[.slice p.A np p.c,.slice q.A nq q.c]:Array Value)=C:=⟨_,rfl⟩;have IG:=Hi (infoGr (CS:=CG) (by rw[← hcg];rfl));have HGM:=Hi hG;have HFD:=Hi hF;rw[hcg]at XA KACC KRP HG0 ⊢;clear hcg hn hnp hnq hp hq hp8 hq8 hs hc hm hz hG hF her;go_enter Tryz.func4,Tryz.ntmps4
 go_wp2_with (with_reducible refine wpList_load_row rfl 24 (.tmp 3) rfl (w.heap.size) (by with_unfolding_all rfl) _ CG _ _ HG0.out Tryz.underlying24 rfl IG.out ?_)
 with_reducible refine KACC.out.mono ?_
 rintro e w1 ⟨⟨b,KA,Kc,nk,K,rfl,hKn,hK⟩,hb1⟩;have HX1:=Hi (XA.out.trans hb1);obtain⟨CB,hcb,hnb,h1b,hkb⟩:=b.packed;rw[hcb];have IB:=Hi (infoBk hnb);have NB:=Hi hnb;have OB:=Hi h1b;have HKB:=Hi hkb;have HKN:=Hi hKn;have HK:=Hi hK;have XB:Hid (Ext w1 (w1.alloc (.cells CB 31))):=Hi ((Ext.refl w1).alloc _);have HXB:=Hi (HX1.out.trans XB.out);have HGB1:Hid ((w1.alloc (.cells CB 31)).heap[w1.heap.size]?=some (.cells CB 31 (0,0))):=Hi (heap_alloc_new w1 _);have HGG1:=Hi ((hb1.trans XB.out).blockAt HG0.out);clear hb1 hcb hnb h1b hkb hKn hK;by_cases h0:er=0;case neg =>
  go_wp2_with (with_reducible refine wpList_store_newN rfl 31 (.tmp 7) (.tmp 22) rfl (w1.heap.size) (by with_reducible rfl) _ CB 31 (by with_unfolding_all rfl) (by with_unfolding_all rfl) IB.out (by with_unfolding_all exact NB.out.symm) OB.out ?_)
  with_reducible refine(awake_any _ (HGM.out.ext (HXB.out)) (HFD.out.ext (HXB.out))).mono ?_
  rintro e wa ⟨rfl,hba⟩;go_wp2;go_ret;exact⟨rfl,(HXB.out).trans hba⟩
 have HR0:=Hi h0;obtain⟨hok,hrun,hn40,hbin,hks,hnc,hcm,hsz⟩:=HK.out h0;have HOK:=Hi hok;have HRUN:=Hi hrun;have HBIN:=Hi hbin;have HKS:=Hi hks;have HSZ:=Hi hsz;have KR1:=Hi (KRP.out KA Kc nk K _ HXB.out HKN.out (HKS.out.ext XB.out) (by omega) hsz h0 hok);have hc63:Kc≤9223372036854775807:=by unfold maxLen at hcm;omega
 subst h0;clear HK hok hrun hbin hks hcm hsz KACC;go_wp2_with (first
       | (with_reducible refine wpList_store_newN rfl 31 (.tmp 7) (.tmp 22) rfl (w1.heap.size) (by with_reducible rfl) _ CB 31 (by with_unfolding_all rfl) (by with_unfolding_all rfl) IB.out (by with_unfolding_all exact NB.out.symm) OB.out ?_)
       | (with_reducible refine wpList_load_row rfl 24 (.tmp 3) rfl (w.heap.size) (by with_unfolding_all rfl) _ CG _ _ HGG1.out Tryz.underlying24 rfl IG.out ?_))
 with_reducible refine KR1.out.mono ?_
 rintro e w2 ⟨⟨b2,rfl,hb2,hin2,-⟩,hb2x⟩;obtain⟨CN,hcn,hnn,h1n,hkn⟩:=b2.packed;rw[hcn];have IN_:=Hi (infoBk hnn);have NN:=Hi hnn;have ON:=Hi h1n;have XN:Hid (Ext w2 (w2.alloc (.cells CN 31))):=Hi ((Ext.refl w2).alloc _);have HX2:=Hi (hb2x.trans XN.out);have HGN:Hid ((w2.alloc (.cells CN 31)).heap[w2.heap.size]?=some (.cells CN 31 (0,0))):=Hi (heap_alloc_new w2 _);have HGB2:=Hi (HX2.out.blockAt HGB1.out);have KS:=Hi (rSame_any b2 b (v:=true) ⟨fun _=>by rw[hb2,HRUN.out],fun _=>rfl⟩ (w2.alloc (.cells CN 31)) (hin2.ext XN.out) (HBIN.out.ext (XB.out.trans HX2.out)));rw[hcn,show b.agg=.agg CB from by rw[← HKB.out];rfl]at KS;clear hb2 hin2 hb2x hcn hnn h1n hkn;go_wp2_with (first
       | (with_reducible refine wpList_store_newN rfl 31 (.tmp 10) (.tmp 32) rfl (w2.heap.size) (by with_reducible rfl) _ CN 31 (by with_unfolding_all rfl) (by with_unfolding_all rfl) IN_.out (by with_unfolding_all exact NN.out.symm) ON.out ?_)
       | (refine wpList_load_row_w rfl 31 (.tmp 10) rfl w2.heap.size rfl _ CN _ _ HGN.out Tryz.underlying31 rfl IN_.out ?_)
       | (refine wpList_load_row_w rfl 31 (.tmp 7) rfl w1.heap.size rfl _ CB _ _ HGB2.out Tryz.underlying31 rfl IB.out ?_))
 with_reducible refine KS.out.mono ?_
 rintro e w3 ⟨rfl,hb3⟩;have HX3:=Hi (XB.out.trans (HX2.out.trans hb3));have HGB3:=Hi (hb3.blockAt HGB2.out);have HG3:=Hi ((HX2.out.trans hb3).blockAt HGG1.out);have HXW3:=Hi (HX1.out.trans HX3.out);clear hb3 KS KR1 HGN;have hd2:(nk:Int).tdiv 2=((nk / 2:Nat):Int):=(Int.ofNat_tdiv nk 2).symm;obtain⟨ta,hta,hcase⟩:∃ ta:Nat,ta≤nk∧((x2<0∧(nk:Int).tdiv 2=(ta:Int))∨(¬ x2<0∧(nk:Int)<x2∧(nk:Int).tdiv 2=(ta:Int))∨(¬ x2<0∧¬ (nk:Int)<x2∧x2=(ta:Int))):=by
  by_cases h1:x2<0
  · exact⟨nk / 2,by omega,Or.inl ⟨h1,hd2⟩⟩
  · by_cases h2:(nk:Int)<x2
    · exact⟨nk / 2,by omega,Or.inr (Or.inl ⟨h1,h2,hd2⟩)⟩
    · exact⟨x2.toNat,by omega,Or.inr (Or.inr ⟨h1,h2,by omega⟩)⟩
 have HTK:Hid ((cmds K).take ta=cmds (K.take ta)):=Hi (by unfold cmds;rw[List.map_take]);obtain⟨bt,hbt⟩:∃ B,runB (nBank p.xs q.xs) (cmds (K.take ta))=B:=⟨_,rfl⟩;have HBT:=Hi hbt;have KR2:=Hi (fun(W:World) (hx:Ext w3 W)=>KRP.out KA Kc ta (K.take ta) W (HXW3.out.trans hx) (by rw[List.length_take,HKN.out];omega) ((HKS.out.ext (HX3.out.trans hx)).take ta) (by omega) (fun x hx=>HSZ.out x (List.take_subset _ _ hx)) trivial (by rw[← HTK.out];exact HOK.out.take ta));rw[hbt]at KR2;have ENR:=Hi (enters_of Tryz.func16 (by kernel_rfl) rfl);have HTA:Hid (ta≤Kc∧(ta:Int)≤(Kc:Int)∧(0:Int)≤(ta:Int)):=Hi ⟨by omega,by omega,by omega⟩;have n1:¬ nk<ta:=by omega
 have n2:decide (nk<ta)=false:=decide_eq_false n1;clear hbt hd2;rcases hcase with ⟨g1,hd3⟩ | ⟨g1,g2,hd3⟩ | ⟨g1,g2,rfl⟩
 all_goals
  go_wp2_with fail
  refine region_tj (by kernel_rfl) (by decide +kernel) (rpvE w.heap.size nk ta Kc KA) ⟨rfl,rfl,rfl,rfl⟩ 13 rpvD rpvC (RG (rpvL w.heap.size w3.heap.size nk ta Kc CG KA)) w3 (RpJ w3.heap.size bt ta) (Ext.refl _) (fun i h1 h2=>absurd h2 (Nat.not_lt.2 h1)) (fun h=>by cases h) ?_ ?_
  · rintro Tv dd lv U wz i o hE ho hlv hd ⟨hT,hJ⟩;obtain⟨t2,t3,t8,tz⟩:=hE;have hx:=hT.ext
    match i,ho,hlv,hd with
    | 0,ho,hlv,hd=>cases oi ho;have v0:=od dd hT tz t3;refine tj_yield (v:=.agg CG) (RG.ext (rpvL_mono w.heap.size w3.heap.size nk ta Kc CG KA)) hT ho hd rfl rfl (by decide) (fun j a b _=>(show ∀ j,j<13→j≠0→rpvD.getD j 0≠rpvD.getD 0 0 by decide) j a b) (exec_load_row _ _ rfl w.heap.size v0 _ _ _ _ (hx.blockAt HG3.out) Tryz.underlying24 rfl IG.out) (Ext.refl _) rfl (hJ.keep rfl rfl rfl rfl rfl rfl rfl rfl rfl)
    | 1,ho,hlv,hd=>cases oi ho;have v0:=od dd hT tz t8;refine tj_yield (v:=.slice KA nk Kc) (RG.ext (rpvL_mono w.heap.size w3.heap.size nk ta Kc CG KA)) hT ho hd rfl rfl (by decide) (fun j a b _=>(show ∀ j,j<13→j≠1→rpvD.getD j 0≠rpvD.getD 1 0 by decide) j a b) ?_ (Ext.refl _) rfl (hJ.keep rfl rfl rfl rfl rfl rfl rfl rfl rfl);generalize Act.eval ⟨over Tv U,dd⟩=ev at *;simp[execOp,go_sem,v0]
    | 2,ho,hlv,hd=>cases oi ho;have v0:=od dd hT tz t2;refine tj_yield (v:=.int .i64 (ta:Int)) (RG.ext (rpvL_mono w.heap.size w3.heap.size nk ta Kc CG KA)) hT ho hd rfl rfl (by decide) (fun j a b _=>(show ∀ j,j<13→j≠2→rpvD.getD j 0≠rpvD.getD 2 0 by decide) j a b) ?_ (Ext.refl _) rfl (hJ.keep rfl rfl rfl rfl rfl rfl rfl rfl rfl);generalize Act.eval ⟨over Tv U,dd⟩=ev at *;simp[execOp,go_sem,v0]
    | 3,ho,hlv,hd=>cases oi ho;have v0:=nw dd hT hd tz 1 62 (.slice KA nk Kc);have v1:=nw dd hT hd tz 2 63 (.int .i64 (ta:Int));have hta:=HTA.out;refine tj_yield (v:=.slice KA ta Kc) (RG.ext (rpvL_mono w.heap.size w3.heap.size nk ta Kc CG KA)) hT ho hd rfl rfl (by decide) (fun j a b _=>(show ∀ j,j<13→j≠3→rpvD.getD j 0≠rpvD.getD 3 0 by decide) j a b) ?_ (Ext.refl _) rfl (hJ.keep rfl rfl rfl rfl rfl rfl rfl rfl rfl);generalize Act.eval ⟨over Tv U,dd⟩=ev at *;have hu:=Tryz.underlying25;simp[execOp,go_sem,v0,v1,Instr.sliceAt,run_underlying hu,hta]
    | 4,ho,hlv,hd =>
     cases oi ho;have v0:=nw dd hT hd tz 0 61 (.agg CG);have v1:=nw dd hT hd tz 3 64 (.slice KA ta Kc);have g5:lv 5=false:=by
      cases h:lv 5 with
      | false=>rfl
      | true=>exact absurd (dep (hT.shut 5 _ rfl h) 4 (by kernel_rfl)) (by rw[hlv];decide)
     have g6:lv 6=false:=by
      cases h:lv 6 with
      | false=>rfl
      | true=>exact absurd (dep (hT.shut 5 _ rfl (dep (hT.shut 6 _ rfl h) 5 (by kernel_rfl))) 4 (by kernel_rfl)) (by rw[hlv];decide)
     have g10:lv 10=false:=by
      cases h:lv 10 with
      | false=>rfl
      | true=>exact absurd (dep (hT.shut 10 _ rfl h) 6 (by kernel_rfl)) (by rw[g6];decide)
     refine tj_call (f:=16) (args:=#[.agg CG,.slice KA ta Kc]) (RG.ext (rpvL_mono w.heap.size w3.heap.size nk ta Kc CG KA)) hT ho hd rfl rfl (by decide) (by decide) (exec_call2 rfl rfl v0 v1 ENR.out) ?_;refine(KR2.out wz hx).mono ?_;rintro e w' ⟨⟨B,rfl,hB1,hB2,hB3⟩,hb⟩;refine⟨_,rfl,hb,trivial,fun _=>⟨B,rfl,hB1,hB2,fun h=>absurd (show lv 5=true from h) (by rw[g5];decide),fun h=>absurd (show lv 6=true from h) (by rw[g6];decide),fun h=>?_,fun h=>absurd (show lv 10=true from h) (by rw[g10];decide)⟩⟩;obtain⟨g,e9,hg,hblk⟩:∃ g:Nat,U 12=some (.pointer (some ⟨g,0,none⟩))∧w3.heap.size≤g∧wz.heap[g]?=some (.cells #[.int .i64 0,.slice none 0 0,.slice none 0 0,.slice none 0 0,.slice none 0 0,.slice none 0 0,.slice none 0 0] 31 (0,0)):=hT.facts 9 (by decide) h (fun c e=>by injection e with e;subst e;exact g10);exact⟨g,e9,hB3.off (blk_lt hblk)⟩
    | 5,ho,hlv,hd=>cases oi ho;obtain⟨B,e65,hB1,hB2,j5,j6,j9,j10⟩:=hJ (dep hd 4 (by kernel_rfl));have v0:Act.eval ⟨over Tv U,dd⟩ (.tmp 65)=_:=eval_new (t:=Tv) (d:=dd) e65 (by show 65<Tv.size;omega);refine tj_yield (v:=.tuple #[B.agg,.int .i64 ta,.int .i64 0]) (RG.ext (rpvL_mono w.heap.size w3.heap.size nk ta Kc CG KA)) hT ho hd rfl rfl (by decide) (fun j a b _=>(show ∀ j,j<13→j≠5→rpvD.getD j 0≠rpvD.getD 5 0 by decide) j a b) ?_ (Ext.refl _) trivial (fun _=>⟨B,e65,hB1,hB2,fun _=>rfl,j6,j9,j10⟩);generalize Act.eval ⟨over Tv U,dd⟩=ev at *;simp[execOp,go_sem,v0]
    | 6,ho,hlv,hd=>cases oi ho;obtain⟨B,e65,hB1,hB2,j5,j6,j9,j10⟩:=hJ (dep (hT.shut 5 _ rfl (dep hd 5 (by kernel_rfl))) 4 (by kernel_rfl));have v0:Act.eval ⟨over Tv U,dd⟩ (.tmp 60)=_:=eval_new (t:=Tv) (d:=dd) (j5 (dep hd 5 (by kernel_rfl))) (by show 60<Tv.size;omega);refine tj_yield (v:=B.agg) (RG.ext (rpvL_mono w.heap.size w3.heap.size nk ta Kc CG KA)) hT ho hd rfl rfl (by decide) (fun j a b _=>(show ∀ j,j<13→j≠6→rpvD.getD j 0≠rpvD.getD 6 0 by decide) j a b) ?_ (Ext.refl _) trivial (fun _=>⟨B,e65,hB1,hB2,j5,fun _=>rfl,j9,j10⟩);generalize Act.eval ⟨over Tv U,dd⟩=ev at *;simp[execOp,go_sem,v0]
    | 7,ho,hlv,hd=>cases oi ho;obtain⟨B,e65,hB1,hB2,j5,j6,j9,j10⟩:=hJ (dep (hT.shut 5 _ rfl (dep hd 5 (by kernel_rfl))) 4 (by kernel_rfl));have v0:Act.eval ⟨over Tv U,dd⟩ (.tmp 60)=_:=eval_new (t:=Tv) (d:=dd) (j5 (dep hd 5 (by kernel_rfl))) (by show 60<Tv.size;omega);refine tj_yield (v:=.int .i64 (ta:Int)) (RG.ext (rpvL_mono w.heap.size w3.heap.size nk ta Kc CG KA)) hT ho hd rfl rfl (by decide) (fun j a b _=>(show ∀ j,j<13→j≠7→rpvD.getD j 0≠rpvD.getD 7 0 by decide) j a b) ?_ (Ext.refl _) rfl (hJ.keep rfl rfl rfl rfl rfl rfl rfl rfl rfl);generalize Act.eval ⟨over Tv U,dd⟩=ev at *;simp[execOp,go_sem,v0]
    | 8,ho,hlv,hd=>cases oi ho;obtain⟨B,e65,hB1,hB2,j5,j6,j9,j10⟩:=hJ (dep (hT.shut 5 _ rfl (dep hd 5 (by kernel_rfl))) 4 (by kernel_rfl));have v0:Act.eval ⟨over Tv U,dd⟩ (.tmp 60)=_:=eval_new (t:=Tv) (d:=dd) (j5 (dep hd 5 (by kernel_rfl))) (by show 60<Tv.size;omega);refine tj_yield (v:=.int .i64 0) (RG.ext (rpvL_mono w.heap.size w3.heap.size nk ta Kc CG KA)) hT ho hd rfl rfl (by decide) (fun j a b _=>(show ∀ j,j<13→j≠8→rpvD.getD j 0≠rpvD.getD 8 0 by decide) j a b) ?_ (Ext.refl _) rfl (hJ.keep rfl rfl rfl rfl rfl rfl rfl rfl rfl);generalize Act.eval ⟨over Tv U,dd⟩=ev at *;simp[execOp,go_sem,v0]
    | 9,ho,hlv,hd =>
     cases oi ho;have g10:lv 10=false:=by
      cases h:lv 10 with
      | false=>rfl
      | true=>exact absurd (dep (hT.shut 10 _ rfl h) 9 (by kernel_rfl)) (by rw[hlv];decide)
     refine tj_yield (v:=.pointer (some ⟨wz.heap.size,0,none⟩)) (RG.ext (rpvL_mono w.heap.size w3.heap.size nk ta Kc CG KA)) hT ho hd rfl rfl (by decide) (fun j a b _=>(show ∀ j,j<13→j≠9→rpvD.getD j 0≠rpvD.getD 9 0 by decide) j a b) ?_ ((Ext.refl _).alloc (.cells #[.int .i64 0,.slice none 0 0,.slice none 0 0,.slice none 0 0,.slice none 0 0,.slice none 0 0,.slice none 0 0] 31)) ⟨wz.heap.size,rfl,hx.size,heap_alloc_new _ _⟩ (fun h4=>?_)
     · generalize Act.eval ⟨over Tv U,dd⟩=ev at *;simp[execOp,go_sem]
     · obtain⟨B,e65,hB1,hB2,j5,j6,j9,j10⟩:=hJ h4;exact⟨B,e65,hB1,hB2.ext ((Ext.refl _).alloc _),j5,j6,fun _=>⟨_,rfl,hB2.off (Nat.le_refl _)⟩,fun h=>absurd (show lv 10=true from h) (by rw[g10];decide)⟩
    | 10,ho,hlv,hd =>
     cases oi ho;obtain⟨B,e65,hB1,hB2,j5,j6,j9,j10⟩:=hJ (dep (hT.shut 5 _ rfl (dep (hT.shut 6 _ rfl (dep hd 6 (by kernel_rfl))) 5 (by kernel_rfl))) 4 (by kernel_rfl));have e66:=j6 (dep hd 6 (by kernel_rfl));obtain⟨g,e12,hoff⟩:=j9 (dep hd 9 (by kernel_rfl));obtain⟨g',e12',hg,hblk⟩:∃ g:Nat,U 12=some (.pointer (some ⟨g,0,none⟩))∧w3.heap.size≤g∧wz.heap[g]?=some (.cells #[.int .i64 0,.slice none 0 0,.slice none 0 0,.slice none 0 0,.slice none 0 0,.slice none 0 0,.slice none 0 0] 31 (0,0)):=hT.facts 9 (by decide) (dep hd 9 (by kernel_rfl)) (fun c e=>by injection e with e;subst e;exact hlv);obtain rfl:g'=g:=by rw[e12]at e12';injection e12' with e;injection e with e;injection e with e;injection e with e;exact e.symm
     obtain⟨CF,hcf,hsz,hall,hkf⟩:=B.packed;rw[hcf]at e66;have v0:Act.eval ⟨over Tv U,dd⟩ (.tmp 12)=_:=eval_new (t:=Tv) (d:=dd) e12 (by show 12<Tv.size;omega);have v1:Act.eval ⟨over Tv U,dd⟩ (.tmp 66)=_:=eval_new (t:=Tv) (d:=dd) e66 (by show 66<Tv.size;omega);refine tj_store (w':=wz.setRow g' CF) hT ho hd rfl rfl (exec_store_row 31 (.tmp 12) (.tmp 66) rfl g' _ v0 v1 31 _ hblk (infoBk hsz) hsz.symm hall) (hx.rowSet hg _) trivial ?_ (fun _=>⟨B,e65,hB1,hB2.but hoff (But.setRow _ _ _),j5,fun _=>by rw[hcf];exact e66,j9,fun _=>⟨g',e12,hg,by rw[hkf];exact setRow_heap _ _ _ _ _ _ hblk⟩⟩);intro j hj hji hlj hcj hR
     match j,hj,hR with
     | 0,_,hR=>exact hR
     | 1,_,hR=>exact hR
     | 2,_,hR=>exact hR
     | 3,_,hR=>exact hR
     | 4,_,hR=>exact hR
     | 5,_,hR=>exact hR
     | 6,_,hR=>exact hR
     | 7,_,hR=>exact hR
     | 8,_,hR=>exact hR
     | 9,_,_=>exact absurd rfl (hcj 10 rfl).1
     | 10,_,_=>exact absurd rfl hji
     | 11,_,hR=>exact hR
     | 12,_,hR=>exact hR
     | j+13,hj,_=>exact absurd hj (by omega)
    | 11,ho,hlv,hd=>cases oi ho;have v0:=nw dd hT hd tz 7 67 (.int .i64 (ta:Int));refine tj_yield (v:=.int .i64 (ta:Int)) (RG.ext (rpvL_mono w.heap.size w3.heap.size nk ta Kc CG KA)) hT ho hd rfl rfl (by decide) (fun j a b _=>(show ∀ j,j<13→j≠11→rpvD.getD j 0≠rpvD.getD 11 0 by decide) j a b) ?_ (Ext.refl _) rfl (hJ.keep rfl rfl rfl rfl rfl rfl rfl rfl rfl);generalize Act.eval ⟨over Tv U,dd⟩=ev at *;simp[execOp,go_sem,v0]
    | 12,ho,hlv,hd=>cases oi ho;have v0:=nw dd hT hd tz 8 68 (.int .i64 0);refine tj_yield (v:=.int .i64 0) (RG.ext (rpvL_mono w.heap.size w3.heap.size nk ta Kc CG KA)) hT ho hd rfl rfl (by decide) (fun j a b _=>(show ∀ j,j<13→j≠12→rpvD.getD j 0≠rpvD.getD 12 0 by decide) j a b) ?_ (Ext.refl _) rfl (hJ.keep rfl rfl rfl rfl rfl rfl rfl rfl rfl);generalize Act.eval ⟨over Tv U,dd⟩=ev at *;simp[execOp,go_sem,v0]
    | i+13,ho,_,_=>exact absurd ho (by simp)
  intro U wz hex hout hfin hJ;have f13:U 13=some (.int .i64 (ta:Int)):=hfin 11 (by decide) rfl;have f9:U 9=some (.int .i64 0):=hfin 12 (by decide) rfl;obtain⟨B,-,hB1,hB2,-,-,j9,j10⟩:=hJ rfl;obtain⟨g,f12,-⟩:=j9 rfl;obtain⟨g',e12,hg3,hgb⟩:=j10 rfl;obtain rfl:g'=g:=by rw[f12]at e12;injection e12 with e;injection e with e;injection e with e;injection e with e;exact e.symm
  have XE:=Hi hex;have HB1:=Hi hB1;have HB2:=Hi hB2;have HGP:=Hi hgb;clear hex hfin hJ hB1 hB2 j9 j10 e12 hgb;rw[over_list];simp(disch:=decide) only[overL,Nat.reduceAdd,hout,Option.getD_none];rw[f9,f12,f13];simp only[Option.getD_some];clear hout f9 f12 f13;obtain⟨CP,hcp,hnp,h1p,hkp⟩:=B.packed;have HG0:Hid (wz.heap[g']?=some (.cells B.cells.toArray 31 (0,0))):=HGP;have HXZ:=Hi (HXW3.out.trans XE.out);have HGBZ:=Hi (XE.out.blockAt HGB3.out);clear hcp hnp h1p hkp;have hdrop:K.length-ta=nk-ta:=by rw[HKN.out]
  have hsplit:∃ DA:Option Addr,((Kc=ta∧KA=DA)∨(¬ Kc=ta∧Option.map (fun x=>x.add (ta*32)) KA=DA))∧SlX eCmd w1 DA (K.drop ta):=by
   by_cases hct:Kc=ta
   · refine⟨KA,Or.inl ⟨hct,rfl⟩,?_⟩;rw[List.drop_eq_nil_of_le (by rw[HKN.out];omega)];exact SlX.nil _ _
   · exact⟨_,Or.inr ⟨hct,rfl⟩,HKS.out.drop ta⟩
  obtain⟨DA,hDA,hsd⟩:=hsplit;have HSD:=Hi hsd;have HDL:Hid ((K.drop ta).length=nk-ta):=Hi (by rw[List.length_drop];exact hdrop);have HDA:Hid (∀ j x,(K.drop ta)[j]?=some x→K[ta+j]?=some x):=Hi (fun j x h=>by rw[List.getElem?_drop]at h;exact h);obtain⟨nd,hnd⟩:∃ n,nk-ta=n:=⟨_,rfl⟩;have HND:=Hi hnd;have hnd63:nd≤9223372036854775807:=by omega
  clear hsd hdrop;rcases hDA with ⟨hct,hDA⟩ | ⟨hct,hDA⟩
  all_goals
   go_wp2;clear hDA hct;go_loopw [75] (fun i wr=>∃ (j:Nat) (B2:BankL),j≤nd∧i=.int .i64 j∧Hid (wr.heap[g']?=some (.cells B2.cells.toArray 31 (0,0)))∧Hid (B2.In wr)∧Hid (runB (nBank p.xs q.xs) (cmds (K.take (ta+j)))=B2.bank)∧Hid (Ext w3 wr)) (fun i _=>nd-(intOf i).toNat)
   case atStart=>exact⟨0,B,by omega,rfl,HGP,HB2,Hi (by rw[Nat.add_zero,HBT.out,HB1.out]),XE⟩
   case round =>
   obtain⟨j,B2,hj,rfl,HGQ,HIQ,HRQ,HEQ⟩:=hrel;obtain⟨wk,hwk⟩:∃ W,W=wr:=⟨_,rfl⟩;subst hwk;obtain⟨CQ,hcq,hnq,h1q,hkq⟩:=B2.packed;have IQ:=Hi (infoBk hnq);have HQ7:Hid (CQ.size=7):=Hi hnq;have HXK:=Hi (HXW3.out.trans HEQ.out);have HGBK:=Hi (HEQ.out.blockAt HGB3.out);have HGQ2:Hid (wk.heap[g']?=some (.cells CQ 31 (0,0))):=Hi (by rw[← hkq];exact HGQ.out);by_cases hjt:j<nd;case neg =>
    obtain rfl:j=nd:=by omega
    have hbb:B2.bank=b.bank:=by
     rw[← HRQ.out,← HRUN.out]
     congr 2
     rw[List.take_of_length_le];rw[HKN.out];have:=HND.out;omega
    have KS:=Hi (rSame_any B2 b (v:=true) ⟨fun _=>hbb,fun _=>rfl⟩ wk HIQ.out (HBIN.out.ext (HX3.out.trans HEQ.out)));rw[hcq,show b.agg=.agg CB from by rw[← HKB.out];rfl]at KS;have HVB:Hid (Vb b.bank):=Hi (by rw[← HRUN.out];exact vb_run HOK.out (HVB0.out trivial));clear hcq hnq h1q hkq hbb;go_wp2_with (first
    | (with_reducible refine wpList_load_row rfl 31 (.tmp 12) rfl (g') (by with_unfolding_all rfl) _ CQ _ _ HGQ2.out Tryz.underlying31 rfl IQ.out ?_)
    | (with_reducible refine wpList_load_row rfl 31 (.tmp 7) rfl (w1.heap.size) (by with_unfolding_all rfl) _ CB _ _ HGBK.out Tryz.underlying31 rfl IB.out ?_))
    with_reducible refine KS.out.mono ?_
    rintro e w5 ⟨rfl,hb5⟩;have HE5:=Hi (HEQ.out.trans hb5);obtain⟨ne,hne⟩:∃ n,b.ents.length=n:=⟨_,rfl⟩;obtain⟨EA,hEA⟩:∃ A,b.eA=A:=⟨_,rfl⟩;have HG5:=Hi (hb5.blockAt HGBK.out);have c5:w5.cell? ⟨w1.heap.size,5,none⟩=some (.slice EA ne b.ec):=(cell_of_row _ _ 5 _ _ _ HG5.out).trans (by rw[← HKB.out,← hne,← hEA];rfl);have HNE:=Hi hne;have hne63:ne≤9223372036854775807:=by have:=HBIN.out.ec;unfold maxLen at this;omega
    have HSE:Hid (SlX eEnt w5 EA b.ents):=Hi (by rw[← hEA];exact HBIN.out.ents.ext (HX3.out.trans HE5.out));clear hb5 hne hEA KS;go_wp2;clear c5;go_loopw [95] (fun i wr=>∃ k:Nat,k≤ne∧i=.int .i64 k∧Hid (Ext w5 wr)) (fun i _=>ne-(intOf i).toNat)
    case atStart=>exact⟨0,by omega,rfl,Hi (Ext.refl _)⟩
    case round =>
    obtain⟨k,hk,rfl,HE6⟩:=hrel;have HX6:=Hi (HXW3.out.trans (HE5.out.trans HE6.out));by_cases hkt:k<ne;case neg =>
     obtain rfl:k=ne:=by omega
     go_wp2_with fail
     with_reducible refine(awake_any _ (HGM.out.ext (HX6.out)) (HFD.out.ext (HX6.out))).mono ?_
     rintro e wa ⟨rfl,hba⟩;go_wp2;go_ret;exact⟨rfl,(HX6.out).trans hba⟩
    obtain⟨x,hx⟩:∃ e,b.ents[k]?=some e:=⟨_,List.getElem?_eq_getElem (by rw[HNE.out];exact hkt)⟩;obtain⟨b1,o1,rfl,hbl,hrg,hein⟩:=(HSE.out.ext HE6.out).at_ hx;obtain⟨CE,hce,hne1,h1e,hke⟩:=x.packed;obtain⟨CR,hcr,hnr,-,hkr⟩:=x.rv.packed;have HRE:Hid (wr.rangeAt b1 (o1+k*7) CE.toList):=Hi (by rw[← hke];exact hrg);have IE:=Hi (infoEn hne1);have NE:=Hi hne1;have OE:=Hi h1e;have IR:=Hi (infoRv5 hnr);have ki0:(0:Int)≤(k:Int):=(by omega);have ki1:(k:Int)<(ne:Int):=(by omega);have XE6:Hid (Ext wr (wr.alloc (.cells CE 56))):=Hi ((Ext.refl wr).alloc _);obtain⟨st,hst⟩:∃ z,x.st=z:=⟨_,rfl⟩;have e1:(wr.alloc (.cells CE 56)).cell? ⟨wr.heap.size,1,none⟩=some (.int .i64 st):=(World.cell?_alloc_new _ _ _ _).trans (by rw[← hke,← hst];rfl);have HRR:Hid ((wr.alloc (.cells CE 56)).rangeAt wr.heap.size 1 CR.toList):=Hi (range_of (heap_alloc_new wr _) 1 (fun j v h=>by
     rw[← hkr]at h;rw[← hke]
     match j,h with
     | 0,h=>exact h
     | 1,h=>exact h
     | 2,h=>exact h
     | 3,h=>exact h
     | 4,h=>exact h
     | j+5,h=>simp[RvL.cells]at h))
    by_cases h5:st=5;case neg =>
     clear hx hbl hrg hein hce hne1 h1e hke hcr hnr hkr hst;have h5b:(st == 5)=false:=(by rw[beq_eq_false_iff_ne];exact h5);go_wp2_with (first | (with_reducible refine wpList_load_arr rfl 56 (.tmp 97) rfl (b1) (o1+k*7) (by with_unfolding_all rfl) CE _ HRE.out Tryz.underlying56 rfl IE.out ?_) | (with_reducible refine wpList_store_newN rfl 56 (.tmp 17) (.tmp 98) rfl (wr.heap.size) (by with_reducible rfl) _ CE 56 (by with_unfolding_all rfl) (by with_unfolding_all rfl) IE.out (by with_unfolding_all exact NE.out.symm) OE.out ?_))
     go_roundw;case rel=>exact⟨k+1,by omega,by go_num,Hi (HE6.out.trans XE6.out)⟩
     case measure=>simp[intOf];omega
    subst h5;obtain⟨a1,a2,f1,p1,p2,p3,p4,p5,p6,p7,p8⟩:=(HVB.out.ent x.ent (List.mem_map.2 ⟨x,List.mem_of_getElem? hx,rfl⟩)).apn.five hst;have hrin:x.rv.In wr:=⟨hein.st,hein.au,hein.ap,hein.fa,hein.log,hein.lc⟩;have KAP:=Hi (approved_any x.rv (wr.alloc (.cells CE 56)) (hrin.ext XE6.out) p1 p2 p3 p4 p5 p6 p7 p8);rw[hcr]at KAP;clear hx hbl hrg hein hce hne1 h1e hke hcr hnr hkr hst hrin p1 p2 p3 p4 p5 p6 p7 p8;go_wp2_with (first | (with_reducible refine wpList_load_arr rfl 56 (.tmp 97) rfl (b1) (o1+k*7) (by with_unfolding_all rfl) CE _ HRE.out Tryz.underlying56 rfl IE.out ?_) | (with_reducible refine wpList_store_newN rfl 56 (.tmp 17) (.tmp 98) rfl (wr.heap.size) (by with_reducible rfl) _ CE 56 (by with_unfolding_all rfl) (by with_unfolding_all rfl) IE.out (by with_unfolding_all exact NE.out.symm) OE.out ?_) | (refine wpList_load_arr_w rfl 54 (.tmp 104) rfl wr.heap.size 1 rfl CR _ HRR.out Tryz.underlying54 rfl IR.out ?_))
    with_reducible refine KAP.out.mono ?_
    rintro e w7 ⟨rfl,hb7⟩;have HX7:=Hi (HE6.out.trans (XE6.out.trans hb7));clear hb7;go_wp2;go_roundw;case rel=>exact⟨k+1,by omega,by go_num,HX7⟩
    case measure=>simp[intOf];omega
   obtain⟨x,hx⟩:∃ x,(K.drop ta)[j]?=some x:=⟨_,List.getElem?_eq_getElem (by rw[HDL.out,HND.out];exact hjt)⟩;have hxK:=HDA.out j x hx;obtain⟨bb,off,rfl,hbl,hrg,hxin⟩:=(HSD.out.ext (HX3.out.trans HEQ.out)).at_ hx;obtain⟨CC,hcc,hnc,h1c⟩:=x.packed;have HRG:Hid (wk.rangeAt bb (off+j*32) CC.toList):=Hi (by rw[← hcc];exact hrg);have IC:=Hi (infoCm hnc);have NC:=Hi hnc;have OC:=Hi h1c;have ki0:(0:Int)≤(j:Int):=(by omega);have ki1:(j:Int)<(nd:Int):=(by omega);have XC:Hid (Ext wk (wk.alloc (.cells CC 48))):=Hi ((Ext.refl wk).alloc _);have HGQ3:Hid ((wk.alloc (.cells CC 48)).heap[g']?=some (.cells CQ 31 (0,0))):=Hi (XC.out.blockAt HGQ2.out);have HGC:Hid ((wk.alloc (.cells CC 48)).heap[wk.heap.size]?=some (.cells CC 48 (0,0))):=Hi (heap_alloc_new wk _);have HXW:=Hi (HXK.out.trans XC.out);have hlen:(cmds (K.take (ta+j))).length≤900:=(by rw[cmds_len,List.length_take,HKN.out];omega);have hokt:OkAll (nBank p.xs q.xs) (cmds (K.take (ta+j))):=by have h:=HOK.out.take (ta+j);rwa [show(cmds K).take (ta+j)=cmds (K.take (ta+j))from by unfold cmds;rw[List.map_take]]at h
   have HINV:Hid (Inv (cmds (K.take (ta+j))).length B2.bank):=Hi (by have h:=inv_run hokt HI0.out (cmds_sz fun x hx=>HSZ.out x (List.take_subset _ _ hx));rw[HRQ.out]at h;exact h)
   have hr0:(aplE B2.bank x.cmd).1=0:=by rw[← HRQ.out];have h:=HOK.out (ta+j) x.cmd (cmds_at hxK);rwa [show(cmds K).take (ta+j)=cmds (K.take (ta+j))from by unfold cmds;rw[List.map_take]]at h
   obtain⟨bo2,hr⟩:∃ (bo:Bank),aplE B2.bank x.cmd=(0,bo):=⟨_,Prod.ext hr0 rfl⟩;have KA_:=Hi (apply_any _ B2 x CC (wk.alloc (.cells CC 48)) hcc (HIQ.out.ext XC.out) HINV.out hlen (hxin.ext XC.out) (HSZ.out x (List.mem_of_getElem? hxK)) (HGM.out.ext HXW.out) (HFD.out.ext HXW.out) hr);rw[hcq]at KA_;have HRUN2:Hid (runB (nBank p.xs q.xs) (cmds (K.take (ta+(j+1))))=bo2):=Hi (by have h:=runB_next (nBank p.xs q.xs) (cmds_at hxK);rw[show(cmds K).take (ta+j)=cmds (K.take (ta+j))from by unfold cmds;rw[List.map_take],show(cmds K).take (ta+j+1)=cmds (K.take (ta+j+1))from by unfold cmds;rw[List.map_take],HRQ.out,hr]at h;exact h)
   clear hx hxK hbl hrg hxin hcc hnc h1c hcq hnq h1q hkq hr hr0 hlen hokt;go_wp2_with (first
    | (with_reducible refine wpList_load_arr rfl 48 (.tmp 77) rfl (bb) (off+j*32) (by with_unfolding_all rfl) CC _ HRG.out Tryz.underlying48 rfl IC.out ?_)
    | (with_reducible refine wpList_store_newN rfl 48 (.tmp 15) (.tmp 78) rfl (wk.heap.size) (by with_reducible rfl) _ CC 48 (by with_unfolding_all rfl) (by with_unfolding_all rfl) IC.out (by with_unfolding_all exact NC.out.symm) OC.out ?_)
    | (with_reducible refine wpList_load_row rfl 31 (.tmp 12) rfl (g') (by with_unfolding_all rfl) _ CQ _ _ HGQ3.out Tryz.underlying31 rfl IQ.out ?_)
    | (with_reducible refine wpList_load_row rfl 48 (.tmp 15) rfl (wk.heap.size) (by with_unfolding_all rfl) _ CC _ _ HGC.out Tryz.underlying48 rfl IC.out ?_))
   with_reducible refine KA_.out.mono ?_
   rintro e w6 ⟨⟨B3,rfl,hb3,hin3,hfr3⟩,hb6⟩;obtain⟨CM,hcm2,hnm2,h1m2,hkm2⟩:=B3.packed;rw[hcm2];have IM:=Hi (infoBk hnm2);have OM:=Hi h1m2;have HQM:Hid (CQ.size=CM.size):=Hi (by rw[HQ7.out,hnm2]);have HX6:=Hi (XC.out.trans hb6);have HGQ4:Hid (w6.heap[g']?=some (.cells CQ 31 (0,0))):=Hi (hb6.blockAt HGQ3.out);have HB3:=Hi hb3;have HIN3:=Hi hin3;have HFR3:Hid (B3.From (wk.heap.size+1)):=Hi (by have h:=hfr3;simpa using h);have HKM:=Hi hkm2;have hgk:g' < wk.heap.size:=blk_lt HGQ2.out;clear hb3 hin3 hfr3 hb6 hcm2 hnm2 h1m2 hkm2;go_wp2_with (with_reducible refine wpList_store_row rfl 31 (.tmp 12) (.tmp 83) rfl (g') CM (by with_unfolding_all rfl) (by with_unfolding_all rfl) _ _ HGQ4.out IM.out HQM.out OM.out ?_)
   go_roundw;case rel=>exact⟨j+1,B3,by omega,by go_num,Hi (by rw[HKM.out];exact setRow_heap _ _ _ _ _ _ HGQ4.out),Hi (HIN3.out.but (HFR3.out.off (by omega)) (But.setRow _ _ _)),Hi (by rw[HRUN2.out,HB3.out]),Hi ((HEQ.out.trans HX6.out).rowSet hg3 _)⟩
   case measure=>simp[intOf];omega

end Bk
end Go.Proofs.YtfnmgcblhebdbaaGreatDoor
