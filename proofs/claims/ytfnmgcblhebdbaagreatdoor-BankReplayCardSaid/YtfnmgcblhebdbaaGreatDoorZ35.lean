/- item.Major, item.Succeed: contracts. Conditions: those of each theorem (the package's variable fields holds the names). -/
import Derived.Test.YtfnmgcblhebdbaaGreatDoorZ34
import Derived.Test.YtfnmgcblhebdbaaGreatDoorZ24
namespace Go.Proofs.YtfnmgcblhebdbaaGreatDoor
set_option maxRecDepth 100000
set_option maxHeartbeats 64000000
open Go.RowKit Go.Shelf
namespace It
def isMaj (s:ByteArray):Bool:=eqB s ⟨#[75,105,110,100]⟩ || eqB s ⟨#[83,116,101,109]⟩ || eqB s ⟨#[79,112,116,105,111,110,115]⟩ || eqB s ⟨#[67,104,111,105,99,101,115]⟩ || eqB s ⟨#[86,97,108,117,101]⟩ || eqB s ⟨#[84,111,108]⟩ || eqB s ⟨#[84,101,120,116,115]⟩ || eqB s ⟨#[80,111,105,110,116,115]⟩ || eqB s ⟨#[82,117,98,114,105,99]⟩
def major (a b:Item):Bool:=(diff a b).any isMaj
theorem foldN_any(p:ByteArray→Bool):∀ (ps:List (Bool×ByteArray)),(foldN ps).any p=ps.any fun x=>x.1 && p x.2:=by
 suffices h:∀ (ps:List (Bool×ByteArray)) (xs:List ByteArray),(ps.foldl (fun xs p=>addL xs p.1 p.2) xs).any p=(xs.any p || ps.any fun x=>x.1 && p x.2)by intro ps;have:=h ps [];simpa[foldN]using this
 intro ps
 induction ps with
 | nil=>intro xs;simp
 | cons q ps ih=>intro xs;rw[List.foldl_cons,ih,List.any_cons];obtain⟨d,s⟩:=q;cases d <;> simp[addL,Bool.or_assoc]
theorem major_eq(a b:Item):major a b=((!a.kind == b.kind) || (!eqB a.stem b.stem) || (!eqS a.opts b.opts) || (!eqI a.chs b.chs) || (!a.value == b.value) || (!a.tol == b.tol) || (!eqS a.texts b.texts) || (!a.pts == b.pts) || (!a.rub == b.rub)):=by
 unfold major diff;rw[foldN_any];have hm:isMaj ⟨#[73,100]⟩=false∧isMaj ⟨#[86,101,114,115,105,111,110]⟩=false∧isMaj ⟨#[75,105,110,100]⟩=true∧isMaj ⟨#[83,116,101,109]⟩=true∧isMaj ⟨#[79,112,116,105,111,110,115]⟩=true∧isMaj ⟨#[67,104,111,105,99,101,115]⟩=true∧isMaj ⟨#[86,97,108,117,101]⟩=true∧isMaj ⟨#[84,111,108]⟩=true∧isMaj ⟨#[84,101,120,116,115]⟩=true∧isMaj ⟨#[80,111,105,110,116,115]⟩=true∧isMaj ⟨#[67,111,110,116,101,110,116]⟩=false∧isMaj ⟨#[70,97,109,105,108,121]⟩=false∧isMaj ⟨#[83,101,116]⟩=false∧isMaj ⟨#[87,111,114,100,115]⟩=false∧isMaj ⟨#[83,101,99,111,110,100,115]⟩=false∧isMaj ⟨#[65,115,115,101,116,115]⟩=false∧isMaj ⟨#[82,117,98,114,105,99]⟩=true:=by decide
 obtain⟨m0,m1,m2,m3,m4,m5,m6,m7,m8,m9,m10,m11,m12,m13,m14,m15,m16⟩:=hm;simp only[pairs,List.any_cons,List.any_nil,m0,m1,m2,m3,m4,m5,m6,m7,m8,m9,m10,m11,m12,m13,m14,m15,m16,Bool.and_true,Bool.and_false,Bool.or_false,Bool.false_or,bne,Bool.or_assoc]
end It
theorem It.packed(it:It.Item)(L:It.Loc):∃ CS:Array Value,It.agg it L=.agg CS∧CS.size=17∧CS.all (·.oneCell')=true∧(It.cells it L).toArray=CS :=
 ⟨_,rfl,rfl,by simp[Value.oneCell'],rfl⟩
theorem infoItem{CS:Array Value}(h:CS.size=17):(Tryz.prog.info? 39).map (·.size)=some CS.size:=by rw[h];kernel_rfl
theorem heap_two_fst(w:World)(o1 o2:Obj):((w.alloc o1).alloc o2).heap[w.heap.size]?=some o1:=((Ext.refl (w.alloc o1)).alloc o2).blockAt (heap_alloc_new w o1)
theorem heap_two_snd(w:World)(o1 o2:Obj):((w.alloc o1).alloc o2).heap[w.heap.size+1]?=some o2:=heap_new_at _ _ _ (by simp)
theorem major_any(a b:It.Item)(La Lb:It.Loc)(w:World)(ha:It.In w a La)(hb:It.In w b Lb)(hf:∀ w',Ext w w'→Fld w') :
    Calls Tryz.prog 74 #[It.agg a La,It.agg b Lb] w fun e w'=>e=.returned (.bool (It.major a b))∧Ext w w':=by
 obtain⟨CA,hca,hna,-,-⟩:=It.packed a La;obtain⟨CB,hcb,hnb,-,-⟩:=It.packed b Lb;have HD:=Hi (diff_any a b La Lb);rw[hca,hcb]at HD ⊢;have HA:=Hi ha;have HB:=Hi hb;have HF:=Hi hf;have IA:=Hi (infoItem hna);have IB:=Hi (infoItem hnb);clear ha hb hf hca hcb hna hnb;obtain⟨v,hv⟩:∃ v,It.major a b=v:=⟨_,rfl⟩;have HV:=Hi hv;rw[hv];clear hv;go_enter Tryz.func74,Tryz.ntmps74
 go_wp2_with (first | refine wpList_load_row rfl _ _ rfl w.heap.size rfl _ CA _ _ (heap_two_fst _ _ _) Tryz.underlying39 rfl IA.out ?_ | refine wpList_load_row rfl _ _ rfl (w.heap.size+1) rfl _ CB _ _ (heap_two_snd _ _ _) Tryz.underlying39 rfl IB.out ?_)
 have X0:Ext w ((w.alloc (.cells CA 39)).alloc (.cells CB 39)):=((Ext.refl _).alloc _).alloc _;with_reducible refine(HD.out _ (HA.out.ext X0) (HB.out.ext X0) (HF.out _ X0)).mono ?_
 rintro e w1 ⟨⟨A,c,rfl,hs,h1,h2⟩,hb1⟩;have hle:=It.diff_le a b;obtain⟨l,hl⟩:∃ l,It.diff a b=l:=⟨_,rfl⟩;have HM:Hid (l.any It.isMaj=v):=Hi (by rw[← HV.out,← hl];rfl);rw[hl]at hs h1 hle ⊢;have X1:=Hi (X0.trans hb1);have HS:=Hi hs;clear hs hb1 X0 HD HA HB HF IA IB hl HV h2;go_wp2;go_loopw [11] (fun i wr=>∃ k:Nat,k≤l.length∧i=.int .i64 k∧Hid ((l.take k).any It.isMaj=false)∧Hid (Ext w1 wr)) (fun i _=>l.length-(intOf i).toNat)
 case atStart=>exact⟨0,by omega,rfl,Hi rfl,Hi (Ext.refl _)⟩
 case round =>
  obtain⟨k,hk,rfl,HP,HE⟩:=hrel;by_cases hlt:k<l.length
  · obtain⟨gb,go,rfl,hgb,x0⟩:=(HS.out.ext HE.out).at_ hlt;obtain⟨s,hs'⟩:∃ s,l[k]=s:=⟨_,rfl⟩;have hx:l[k]?=some s:=(by rw[List.getElem?_eq_getElem hlt,hs']);rw[hs']at x0;have HX:=Hi hx;clear hs' hx;have ki0:(0:Int)≤(k:Int):=(by omega);have ki1:(k:Int)<(l.length:Int):=(by omega);have HTRUE:Hid (It.isMaj s=true→v=true):=Hi fun h=>by rw[← HM.out,List.any_eq_true];exact⟨s,List.mem_of_getElem? HX.out,h⟩
    have HFALSE:Hid (It.isMaj s=false→(l.take (k+1)).any It.isMaj=false):=Hi fun h=>by rw[List.take_add_one,HX.out,List.any_append,HP.out];simp[h]
    obtain⟨q0,hq0⟩:∃ q,It.eqB s ⟨#[75,105,110,100]⟩=q:=⟨_,rfl⟩;have Q0:=Hi hq0;have T0:Hid ((s.toList == [75,105,110,100])=q0):=Hi (by have:=It.beqB s ⟨#[75,105,110,100]⟩;rw[hq0,ByteArray.toList_eq ⟨#[75,105,110,100]⟩]at this;exact this);clear hq0;cases q0 with
    | true=>have t0:=T0.out;have HF2:Hid (v=true):=Hi (HTRUE.out (by unfold It.isMaj;simp[Q0.out]));clear h1;go_wp2;go_ret;exact⟨ret_bool HF2.out.symm,X1.out.trans HE.out⟩
    | false =>
     obtain⟨q1,hq1⟩:∃ q,It.eqB s ⟨#[83,116,101,109]⟩=q:=⟨_,rfl⟩;have Q1:=Hi hq1;have T1:Hid ((s.toList == [83,116,101,109])=q1):=Hi (by have:=It.beqB s ⟨#[83,116,101,109]⟩;rw[hq1,ByteArray.toList_eq ⟨#[83,116,101,109]⟩]at this;exact this);clear hq1;cases q1 with
     | true=>have t0:=T0.out;have t1:=T1.out;have HF2:Hid (v=true):=Hi (HTRUE.out (by unfold It.isMaj;simp[Q0.out,Q1.out]));clear h1;go_wp2;go_ret;exact⟨ret_bool HF2.out.symm,X1.out.trans HE.out⟩
     | false =>
      obtain⟨q2,hq2⟩:∃ q,It.eqB s ⟨#[79,112,116,105,111,110,115]⟩=q:=⟨_,rfl⟩;have Q2:=Hi hq2;have T2:Hid ((s.toList == [79,112,116,105,111,110,115])=q2):=Hi (by have:=It.beqB s ⟨#[79,112,116,105,111,110,115]⟩;rw[hq2,ByteArray.toList_eq ⟨#[79,112,116,105,111,110,115]⟩]at this;exact this);clear hq2;cases q2 with
      | true=>have t0:=T0.out;have t1:=T1.out;have t2:=T2.out;have HF2:Hid (v=true):=Hi (HTRUE.out (by unfold It.isMaj;simp[Q0.out,Q1.out,Q2.out]));clear h1;go_wp2;go_ret;exact⟨ret_bool HF2.out.symm,X1.out.trans HE.out⟩
      | false =>
       obtain⟨q3,hq3⟩:∃ q,It.eqB s ⟨#[67,104,111,105,99,101,115]⟩=q:=⟨_,rfl⟩;have Q3:=Hi hq3;have T3:Hid ((s.toList == [67,104,111,105,99,101,115])=q3):=Hi (by have:=It.beqB s ⟨#[67,104,111,105,99,101,115]⟩;rw[hq3,ByteArray.toList_eq ⟨#[67,104,111,105,99,101,115]⟩]at this;exact this);clear hq3;cases q3 with
       | true=>have t0:=T0.out;have t1:=T1.out;have t2:=T2.out;have t3:=T3.out;have HF2:Hid (v=true):=Hi (HTRUE.out (by unfold It.isMaj;simp[Q0.out,Q1.out,Q2.out,Q3.out]));clear h1;go_wp2;go_ret;exact⟨ret_bool HF2.out.symm,X1.out.trans HE.out⟩
       | false =>
        obtain⟨q4,hq4⟩:∃ q,It.eqB s ⟨#[86,97,108,117,101]⟩=q:=⟨_,rfl⟩;have Q4:=Hi hq4;have T4:Hid ((s.toList == [86,97,108,117,101])=q4):=Hi (by have:=It.beqB s ⟨#[86,97,108,117,101]⟩;rw[hq4,ByteArray.toList_eq ⟨#[86,97,108,117,101]⟩]at this;exact this);clear hq4;cases q4 with
        | true=>have t0:=T0.out;have t1:=T1.out;have t2:=T2.out;have t3:=T3.out;have t4:=T4.out;have HF2:Hid (v=true):=Hi (HTRUE.out (by unfold It.isMaj;simp[Q0.out,Q1.out,Q2.out,Q3.out,Q4.out]));clear h1;go_wp2;go_ret;exact⟨ret_bool HF2.out.symm,X1.out.trans HE.out⟩
        | false =>
         obtain⟨q5,hq5⟩:∃ q,It.eqB s ⟨#[84,111,108]⟩=q:=⟨_,rfl⟩;have Q5:=Hi hq5;have T5:Hid ((s.toList == [84,111,108])=q5):=Hi (by have:=It.beqB s ⟨#[84,111,108]⟩;rw[hq5,ByteArray.toList_eq ⟨#[84,111,108]⟩]at this;exact this);clear hq5;cases q5 with
         | true=>have t0:=T0.out;have t1:=T1.out;have t2:=T2.out;have t3:=T3.out;have t4:=T4.out;have t5:=T5.out;have HF2:Hid (v=true):=Hi (HTRUE.out (by unfold It.isMaj;simp[Q0.out,Q1.out,Q2.out,Q3.out,Q4.out,Q5.out]));clear h1;go_wp2;go_ret;exact⟨ret_bool HF2.out.symm,X1.out.trans HE.out⟩
         | false =>
          obtain⟨q6,hq6⟩:∃ q,It.eqB s ⟨#[84,101,120,116,115]⟩=q:=⟨_,rfl⟩;have Q6:=Hi hq6;have T6:Hid ((s.toList == [84,101,120,116,115])=q6):=Hi (by have:=It.beqB s ⟨#[84,101,120,116,115]⟩;rw[hq6,ByteArray.toList_eq ⟨#[84,101,120,116,115]⟩]at this;exact this);clear hq6;cases q6 with
          | true=>have t0:=T0.out;have t1:=T1.out;have t2:=T2.out;have t3:=T3.out;have t4:=T4.out;have t5:=T5.out;have t6:=T6.out;have HF2:Hid (v=true):=Hi (HTRUE.out (by unfold It.isMaj;simp[Q0.out,Q1.out,Q2.out,Q3.out,Q4.out,Q5.out,Q6.out]));clear h1;go_wp2;go_ret;exact⟨ret_bool HF2.out.symm,X1.out.trans HE.out⟩
          | false =>
           obtain⟨q7,hq7⟩:∃ q,It.eqB s ⟨#[80,111,105,110,116,115]⟩=q:=⟨_,rfl⟩;have Q7:=Hi hq7;have T7:Hid ((s.toList == [80,111,105,110,116,115])=q7):=Hi (by have:=It.beqB s ⟨#[80,111,105,110,116,115]⟩;rw[hq7,ByteArray.toList_eq ⟨#[80,111,105,110,116,115]⟩]at this;exact this);clear hq7;cases q7 with
           | true=>have t0:=T0.out;have t1:=T1.out;have t2:=T2.out;have t3:=T3.out;have t4:=T4.out;have t5:=T5.out;have t6:=T6.out;have t7:=T7.out;have HF2:Hid (v=true):=Hi (HTRUE.out (by unfold It.isMaj;simp[Q0.out,Q1.out,Q2.out,Q3.out,Q4.out,Q5.out,Q6.out,Q7.out]));clear h1;go_wp2;go_ret;exact⟨ret_bool HF2.out.symm,X1.out.trans HE.out⟩
           | false =>
            obtain⟨q8,hq8⟩:∃ q,It.eqB s ⟨#[82,117,98,114,105,99]⟩=q:=⟨_,rfl⟩;have Q8:=Hi hq8;have T8:Hid ((s.toList == [82,117,98,114,105,99])=q8):=Hi (by have:=It.beqB s ⟨#[82,117,98,114,105,99]⟩;rw[hq8,ByteArray.toList_eq ⟨#[82,117,98,114,105,99]⟩]at this;exact this);clear hq8;cases q8 with
            | true=>have t0:=T0.out;have t1:=T1.out;have t2:=T2.out;have t3:=T3.out;have t4:=T4.out;have t5:=T5.out;have t6:=T6.out;have t7:=T7.out;have t8:=T8.out;have HF2:Hid (v=true):=Hi (HTRUE.out (by unfold It.isMaj;simp[Q0.out,Q1.out,Q2.out,Q3.out,Q4.out,Q5.out,Q6.out,Q7.out,Q8.out]));clear h1;go_wp2;go_ret;exact⟨ret_bool HF2.out.symm,X1.out.trans HE.out⟩
            | false =>
             have t0:=T0.out;have t1:=T1.out;have t2:=T2.out;have t3:=T3.out;have t4:=T4.out;have t5:=T5.out;have t6:=T6.out;have t7:=T7.out;have t8:=T8.out;have HN:=Hi (HFALSE.out (by unfold It.isMaj;simp[Q0.out,Q1.out,Q2.out,Q3.out,Q4.out,Q5.out,Q6.out,Q7.out,Q8.out]));clear h1;go_wp2;go_roundw;case rel=>exact⟨k+1,by omega,by go_num,HN,HE⟩
             case measure=>simp[intOf];omega
  · obtain rfl:k=l.length:=by omega
    have HF2:Hid (v=false):=Hi (by rw[← HM.out,← HP.out,List.take_length]);go_wp2;go_ret;exact⟨ret_bool HF2.out.symm,X1.out.trans HE.out⟩
namespace It
def succ (a b:Item):Int:=if vld b≠0 then vld b else if b.id≠a.id then 11 else if b.ver-1≠a.ver then 18 else 0
theorem vld_ver{b:Item}(h:vld b=0):1≤b.ver∧b.ver≤50:=by
 unfold vld at h;split at h
 · cases h
 · rename_i hr
   have hr:ranges b=true:=(by simpa using hr);unfold ranges at hr;simp only[Bool.and_eq_true,wi_iff]at hr;exact hr.1.1.1.1.1.1.2
end It
theorem succeed_any(a b:It.Item)(La Lb:It.Loc)(w:World)(hb:It.In w b Lb)(hg:∀ w',Ext w w'→Gm w') :
    Calls Tryz.prog 73 #[It.agg a La,It.agg b Lb] w fun e w'=>e=.returned (.int .i64 (It.succ a b))∧Ext w w':=by
 obtain⟨CA,hca,hna,-,hka⟩:=It.packed a La;obtain⟨CB,hcb,hnb,-,hkb⟩:=It.packed b Lb;have HV:=Hi (valid_any b Lb);rw[hca,hcb];rw[hcb]at HV;have ja0:CA[0]?=some (.int .i64 a.id):=by rw[← hka];rfl
 have ja1:CA[1]?=some (.int .i64 a.ver):=by rw[← hka];rfl
 have jb0:CB[0]?=some (.int .i64 b.id):=by rw[← hkb];rfl
 have jb1:CB[1]?=some (.int .i64 b.ver):=by rw[← hkb];rfl
 have HB:=Hi hb;have HG:=Hi hg;have IB:=Hi (infoItem hnb);have J0:=Hi (And.intro ja0 (And.intro ja1 (And.intro jb0 jb1)));have HVER:Hid (It.vld b=0→1≤b.ver∧b.ver≤50):=Hi It.vld_ver;have HS:Hid (It.succ a b=if It.vld b≠0 then It.vld b else if b.id≠a.id then 11 else if b.ver-1≠a.ver then 18 else 0):=Hi rfl;clear hca hcb hna hnb hka hkb ja0 ja1 jb0 jb1 hb;obtain⟨er,her⟩:∃ er,It.vld b=er:=⟨_,rfl⟩;obtain⟨v,hv⟩:∃ v,It.succ a b=v:=⟨_,rfl⟩;rw[hv]at HS ⊢;rw[her]at HS HVER HV;clear her hv;go_enter Tryz.func73,Tryz.ntmps73
 go_wp2_with (refine wpList_load_row rfl _ _ rfl (w.heap.size+1) rfl _ CB _ _ (heap_two_snd _ _ _) Tryz.underlying39 rfl IB.out ?_)
 have X0:=((Ext.refl w).alloc (.cells CA 39)).alloc (.cells CB 39);with_reducible refine(HV.out _ (HB.out.ext X0) (HG.out _ X0)).mono ?_
 rintro e w1 ⟨rfl,hb1⟩;have A1:=hb1.blockAt (heap_two_fst w (.cells CA 39) (.cells CB 39));have B1:=hb1.blockAt (heap_two_snd w (.cells CA 39) (.cells CB 39));have a0:w1.cell? ⟨w.heap.size,0,none⟩=some (.int .i64 a.id):=(cell_of_row _ _ 0 _ _ _ A1).trans J0.out.1;have a1:w1.cell? ⟨w.heap.size,1,none⟩=some (.int .i64 a.ver):=(cell_of_row _ _ 1 _ _ _ A1).trans J0.out.2.1;have b0:w1.cell? ⟨w.heap.size+1,0,none⟩=some (.int .i64 b.id):=(cell_of_row _ _ 0 _ _ _ B1).trans J0.out.2.2.1;have b1:w1.cell? ⟨w.heap.size+1,1,none⟩=some (.int .i64 b.ver):=(cell_of_row _ _ 1 _ _ _ B1).trans J0.out.2.2.2;have X1:=Hi (X0.trans hb1);clear hb1 X0 A1 B1 HV IB;by_cases he:er=0
 · have hver:=HVER.out he;have t0:(er != 0)=false:=(by rw[he];rfl);have HE:=Hi he;clear he;obtain⟨v1,v2⟩:=hver;by_cases hid:b.id=a.id
   · have t1:(b.id != a.id)=false:=(by rw[bne_eq_false_iff_eq];exact hid);have HI:=Hi hid;clear hid;by_cases hvv:b.ver-1=a.ver
     · have t2:(b.ver-1 != a.ver)=false:=(by rw[bne_eq_false_iff_eq];exact hvv);have HVV:=Hi hvv;clear hvv;have HF:Hid (v=0):=Hi (by rw[HS.out,if_neg (fun h=>h HE.out),if_neg (fun h=>h HI.out),if_neg (fun h=>h HVV.out)]);go_wp2;go_ret;exact⟨ret_int HF.out.symm,X1.out⟩
     · have t2:(b.ver-1 != a.ver)=true:=(by rw[bne_iff_ne];exact hvv);have HVV:=Hi hvv;clear hvv;have HF:Hid (v=18):=Hi (by rw[HS.out,if_neg (fun h=>h HE.out),if_neg (fun h=>h HI.out),if_pos HVV.out]);go_wp2;go_ret;exact⟨ret_int HF.out.symm,X1.out⟩
   · have t1:(b.id != a.id)=true:=(by rw[bne_iff_ne];exact hid);have HI:=Hi hid;clear hid;have HF:Hid (v=11):=Hi (by rw[HS.out,if_neg (fun h=>h HE.out),if_pos HI.out]);go_wp2;go_ret;exact⟨ret_int HF.out.symm,X1.out⟩
 · have t0:(er != 0)=true:=(by rw[bne_iff_ne];exact he);have HE:=Hi he;clear he;have HF:Hid (v=er):=Hi (by rw[HS.out,if_pos HE.out]);go_wp2;go_ret;exact⟨ret_int HF.out.symm,X1.out⟩
end Go.Proofs.YtfnmgcblhebdbaaGreatDoor
