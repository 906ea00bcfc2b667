/- review.possible, review.excluded, review.Allowed and their counterparts in the reference: contracts for the walk. Conditions: those of each theorem. -/
import Derived.Test.YtfnmgcblhebdbaaGreatDoorZ3
import Derived.Test.YtfnmgcblhebdbaaGreatDoorZ5
namespace Go.Proofs.YtfnmgcblhebdbaaGreatDoor
set_option maxHeartbeats 1600000
open Go.RowKit

theorem beq_dec(a b:Int):(a == b)=decide (a=b):=by
 by_cases h:a=b <;> simp[h]

theorem possible_any(k s:Int)(w:World)(h1:1≤k)(h2:k≤9) :
    Calls Tryz.prog 139 #[.int .i64 k,.int .i64 s] w fun e w'=>e=.returned (.tuple #[.int .i64 (Rev.role k s),.bool (Rev.poss k s)])∧w=w':=by
 by_cases h3:k=3
 · subst h3;clear h1 h2;by_cases hs:s=3
   · subst hs;go_enter Tryz.func139,Tryz.ntmps139
     go_wp2
     go_ret2
     exact⟨rfl,rfl⟩
   · have hs':(s == 3)=false:=(by rw[beq_eq_false_iff_ne];exact hs);have HS:=Hi hs;clear hs;go_enter Tryz.func139,Tryz.ntmps139
     go_wp2
     go_ret2
     refine⟨ret_ib ?_ ?_,rfl⟩
     · unfold Rev.role;simp[HS.out]
     · unfold Rev.poss;rw[beq_dec];simp[HS.out]
 · have hk:k=1∨k=2∨k=4∨k=5∨k=6∨k=7∨k=8∨k=9:=(by omega);clear h1 h2 h3;rcases hk with rfl | rfl | rfl | rfl | rfl | rfl | rfl | rfl
   all_goals
    go_enter Tryz.func139,Tryz.ntmps139
    go_wp2
    all_goals
     go_ret2
     refine⟨ret_ib ?_ ?_,rfl⟩
     · unfold Rev.role;simp
     · unfold Rev.poss;rw[Bool.eq_iff_iff];simp <;> omega

def IdxPost (xs:List Int)(v:Int)(w:World)(e:Ending)(w':World):Prop:=∃ n:Int,e=.returned (.int .i64 n)∧(0≤n↔v∈xs)∧Ext w w'

theorem index_any(X:Option Addr)(xc:Nat)(xs:List Int)(v:Int)(w:World)(hX:SlI w X xs)(hl:xs.length≤maxLen) :
    Calls Tryz.prog 187 #[.slice X xs.length xc,.int .i64 v] w (IdxPost xs v w):=by
 have HX:=Hi hX;unfold maxLen at hl;clear hX;go_enter Tryz.func187,Tryz.ntmps187
 go_wp2;go_loopw [8] (fun i wr=>∃ k:Nat,k≤xs.length∧i=.int .i64 k∧(∀ j,j<k→xs[j]?≠some v)∧Ext w wr) (fun i _=>xs.length-(intOf i).toNat)
 case atStart=>exact⟨0,by omega,rfl,fun j hj=>absurd hj (by omega),Ext.refl _⟩
 case round =>
  obtain⟨k,hk,rfl,hno,he⟩:=hrel;have HNO:=Hi hno;clear hno;by_cases hlt:k<xs.length
  · obtain⟨b,off,x,rfl,hb,hx,cx⟩:=(HX.out.ext he).at_ (i:=k) hlt;have HXX:=Hi hx;clear hx;by_cases hxv:v=x
    · subst hxv;go_wp2;go_ret;exact⟨_,rfl,⟨fun _=>List.mem_of_getElem? HXX.out,fun _=>by omega⟩,he⟩
    · have hxv':(v == x)=false:=(by rw[beq_eq_false_iff_ne];exact hxv);have HV:=Hi hxv;clear hxv;go_wp2;go_roundw;case rel =>
       refine⟨k+1,by omega,by go_num,fun j hj e=>?_,he⟩;rcases Nat.lt_or_ge j k with g | g
       · exact HNO.out j g e
       · obtain rfl:j=k:=by omega
         rw[HXX.out]at e;injection e with e;exact HV.out e.symm
      case measure=>simp[intOf];omega
  · go_wp2;go_ret;refine⟨-1,rfl,⟨fun h=>absurd h (by omega),fun h=>?_⟩,he⟩;obtain⟨j,hj⟩:=List.mem_iff_getElem?.1 h;rcases Nat.lt_or_ge j k with g | g
    · exact absurd hj (HNO.out j g)
    · rw[List.getElem?_eq_none (by omega)]at hj;cases hj

theorem containsI_any(X:Option Addr)(xc:Nat)(xs:List Int)(v:Int)(w:World)(hX:SlI w X xs)(hl:xs.length≤maxLen) :
    Calls Tryz.prog 157 #[.slice X xs.length xc,.int .i64 v] w fun e w'=>e=.returned (.bool (decide (v∈xs)))∧Ext w w':=by
 have HX:=Hi hX;have HL:=Hi hl;clear hX hl;go_enter Tryz.func157,Tryz.ntmps157
 go_wp2_with fail
 refine(index_any X xc xs v _ HX.out HL.out).mono ?_;rintro e w1 ⟨n,rfl,hn,hb1⟩;have HN:=Hi hn;clear hn;go_wp2;go_ret;refine⟨ret_bool ?_,hb1⟩;rw[decide_eq_decide];exact HN.out

end Go.Proofs.YtfnmgcblhebdbaaGreatDoor
namespace Go.Proofs.YtfnmgcblhebdbaaGreatDoor
open Go.RowKit

def Rev.Act.cells (a:Rev.Act):List Value:=[.int .i64 a.kind,.int .i64 a.user,.int .i64 a.roles,.int .i64 a.time]
def Rev.Act.In (a:Rev.Act):Prop:=In64 a.kind∧In64 a.user∧In64 a.roles∧In64 a.time
def SlA (w:World)(L:Option Addr)(log:List Rev.Act):Prop:=Sl w 4 L (log.map Rev.Act.cells)
theorem SlA.ext{w w':World}{L:Option Addr}{log:List Rev.Act}(h:SlA w L log)(he:Ext w w'):SlA w' L log:=Sl.ext h he
theorem SlA.nil(w:World)(L:Option Addr):SlA w L []:=Or.inl rfl
theorem SlA.at_{w:World}{L:Option Addr}{log:List Rev.Act}(h:SlA w L log){i:Nat}{a:Rev.Act}(hi:log[i]?=some a) :
    ∃ b off,L=some ⟨b,off,none⟩∧b<w.heap.size∧w.cell? ⟨b,off+i*4,none⟩=some (.int .i64 a.kind)∧w.cell? ⟨b,off+i*4+1,none⟩=some (.int .i64 a.user)∧w.cell? ⟨b,off+i*4+2,none⟩=some (.int .i64 a.roles)∧w.cell? ⟨b,off+i*4+3,none⟩=some (.int .i64 a.time):=by
 obtain⟨b,off,hA,hb,hc⟩:=Sl.at_ (i:=i) (cs:=a.cells) h (by simp[hi]);exact⟨b,off,hA,hb,hc 0 _ rfl,hc 1 _ rfl,hc 2 _ rfl,hc 3 _ rfl⟩

def RevIn (w:World)(st au:Int)(P:Option Addr)(pc:Nat)(ap:List Int)(Q:Option Addr)(qc:Nat)(fa:List Int)(L:Option Addr)(lc:Nat)(log:List Rev.Act):Prop :=
 (⟨P,pc,ap⟩:IL).In w∧(⟨Q,qc,fa⟩:IL).In w∧SlA w L log∧log.length≤lc∧lc≤maxLen∧(∀ a∈log,a.In)∧In64 st∧In64 au
theorem RevIn.ext{w w':World}{st au:Int}{P:Option Addr}{pc:Nat}{ap:List Int}{Q:Option Addr}{qc:Nat}{fa:List Int}{L:Option Addr}{lc:Nat}{log:List Rev.Act}(h:RevIn w st au P pc ap Q qc fa L lc log)(he:Ext w w'):RevIn w' st au P pc ap Q qc fa L lc log :=
 ⟨h.1.ext he,h.2.1.ext he,h.2.2.1.ext he,h.2.2.2⟩

set_option maxHeartbeats 1600000 in
theorem excluded_any(st au:Int)(P:Option Addr)(pc:Nat)(ap:List Int)(Q:Option Addr)(qc:Nat)(fa:List Int)(L:Option Addr)(lc:Nat)(log:List Rev.Act)(k u:Int)(w:World)(h:RevIn w st au P pc ap Q qc fa L lc log)(h1:1≤k)(h2:k≤9) :
    Calls Tryz.prog 140 #[.agg #[.int .i64 st,.int .i64 au,.slice P ap.length pc,.slice Q fa.length qc,.slice L log.length lc],.int .i64 k,.int .i64 u] w fun e w'=>e=.returned (.bool (Rev.excl ⟨st,au,ap,fa,log⟩ k u))∧Ext w w':=by
 have hx0:Ext w (w.alloc (.cells #[.int .i64 st,.int .i64 au,.slice P ap.length pc,.slice Q fa.length qc,.slice L log.length lc] 54)):=(Ext.refl _).alloc _;have H:=Hi h;clear h;by_cases h24:k=2∨k=4
 · by_cases hu:u=au
   · subst hu;clear h1 h2;rcases h24 with rfl | rfl
     all_goals
      go_enter Tryz.func140,Tryz.ntmps140
      go_wp2;go_ret;refine⟨ret_bool ?_,hx0⟩;unfold Rev.excl;simp
   · have hu':(u == au)=false:=(by rw[beq_eq_false_iff_ne];exact hu);have HU:=Hi hu;clear h1 h2 hu;rcases h24 with rfl | rfl
     all_goals
      go_enter Tryz.func140,Tryz.ntmps140
      go_wp2_with fail
      refine(containsI_any P pc ap u _ (H.out.1.1.ext hx0) (Nat.le_trans H.out.1.2.1 H.out.1.2.2.1)).mono ?_;rintro e w1 ⟨rfl,hb1⟩;go_wp2;go_ret;refine⟨ret_bool ?_,hx0.trans hb1⟩;unfold Rev.excl;simp[HU.out]
 · have hk:k=1∨k=3∨k=5∨k=6∨k=7∨k=8∨k=9:=(by omega);clear h1 h2 h24;rcases hk with rfl | rfl | rfl | rfl | rfl | rfl | rfl
   all_goals
    go_enter Tryz.func140,Tryz.ntmps140
    go_wp2;go_ret;refine⟨ret_bool ?_,hx0⟩;unfold Rev.excl;rw[Bool.eq_iff_iff];simp

end Go.Proofs.YtfnmgcblhebdbaaGreatDoor
namespace Go.Proofs.YtfnmgcblhebdbaaGreatDoor
set_option maxRecDepth 100000
set_option maxHeartbeats 3200000
open Go.RowKit

theorem allowed_any(st au:Int)(P:Option Addr)(pc:Nat)(ap:List Int)(Q:Option Addr)(qc:Nat)(fa:List Int)(L:Option Addr)(lc:Nat)(log:List Rev.Act)(k u ro t:Int)(w:World)(h:RevIn w st au P pc ap Q qc fa L lc log) :
    Calls Tryz.prog 110 #[.agg #[.int .i64 st,.int .i64 au,.slice P ap.length pc,.slice Q fa.length qc,.slice L log.length lc],.agg #[.int .i64 k,.int .i64 u,.int .i64 ro,.int .i64 t]] w fun e w'=>e=.returned (.int .i64 (Rev.allowedE ⟨st,au,ap,fa,log⟩ ⟨k,u,ro,t⟩))∧Ext w w':=by
 have hx0:Ext w ((w.alloc (.cells #[.int .i64 st,.int .i64 au,.slice P ap.length pc,.slice Q fa.length qc,.slice L log.length lc] 54)).alloc (.cells #[.int .i64 k,.int .i64 u,.int .i64 ro,.int .i64 t] 116)):=((Ext.refl _).alloc _).alloc _;have H:=Hi h;have hlc:=h.2.2.2.1;have hlm:=h.2.2.2.2.1;unfold maxLen at hlm;clear h;unfold Rev.allowedE
 dsimp only
 by_cases c1:k<1∨9<k
 · rw[if_pos c1];rcases c1 with c1 | c1
   · go_enter Tryz.func110,Tryz.ntmps110
     go_wp2;go_ret;exact⟨rfl,hx0⟩
   · have c1':1≤k:=(by omega);go_enter Tryz.func110,Tryz.ntmps110
     go_wp2;go_ret;exact⟨rfl,hx0⟩
 · rw[if_neg c1];have k1:1≤k:=(by omega);have k9:k≤9:=(by omega);clear c1;by_cases c2:u<1∨9999999<u∨t<0∨1099511627776<t
   · rw[if_pos c2];have c2':u<1∨(1≤u∧9999999<u)∨(1≤u∧u≤9999999∧t<0)∨(1≤u∧u≤9999999∧0≤t∧1099511627776<t):=(by omega);clear c2;rcases c2' with d | ⟨d1,d2⟩ | ⟨d1,d2,d3⟩ | ⟨d1,d2,d3,d4⟩
     all_goals
      go_enter Tryz.func110,Tryz.ntmps110
      go_wp2;go_ret;exact⟨rfl,hx0⟩
   · rw[if_neg c2];have u1:1≤u:=(by omega);have u9:u≤9999999:=(by omega);have t0:0≤t:=(by omega);have t9:t≤1099511627776:=(by omega);clear c2;by_cases c3:200≤log.length
     · rw[if_pos c3];have c3':200≤(log.length:Int):=(by omega);go_enter Tryz.func110,Tryz.ntmps110
       go_wp2;go_ret;exact⟨rfl,hx0⟩
     · rw[if_neg c3];have c3':(log.length:Int)<200:=(by omega);clear c3;rcases List.eq_nil_or_concat log with hnil | ⟨l0,a0,hcat⟩
       · subst hnil;have hl0:Rev.late [] t=false:=rfl;rw[hl0,if_neg (by decide)];have z0:decide (0<(([]:List Rev.Act).length:Int))=false:=(by decide);by_cases c5:Rev.poss k st=false
         · rw[if_pos c5];go_enter Tryz.func110,Tryz.ntmps110
           go_wp2;go_quiet (fail)
           go_wp2_with fail
           refine(possible_any k st _ k1 k9).mono ?_;rintro e w1 ⟨rfl,rfl⟩;go_wp2;go_ret;exact⟨rfl,hx0.drewN _⟩
         · rw[if_neg c5];have c5':Rev.poss k st=true:=(by simpa using c5);clear c5;by_cases c6:bits .and .i64 ro (Rev.role k st)=0
           · rw[if_pos c6];have c6':(bits .and .i64 ro (Rev.role k st) == 0)=true:=(by rw[beq_iff_eq];exact c6);clear c6;go_enter Tryz.func110,Tryz.ntmps110
             go_wp2;go_quiet (fail)
             go_wp2_with fail
             refine(possible_any k st _ k1 k9).mono ?_;rintro e w1 ⟨rfl,rfl⟩;go_wp2;go_ret;exact⟨rfl,hx0.drewN _⟩
           · rw[if_neg c6];have c6':(bits .and .i64 ro (Rev.role k st) == 0)=false:=(by rw[beq_eq_false_iff_ne];exact c6);clear c6;by_cases c7:Rev.excl ⟨st,au,ap,fa,[]⟩ k u=true
             · rw[if_pos c7];have C7:=Hi c7;clear c7;go_enter Tryz.func110,Tryz.ntmps110
               go_wp2;go_quiet (fail)
               go_wp2_with fail
               refine(possible_any k st _ k1 k9).mono ?_;rintro e w1 ⟨rfl,rfl⟩;go_wp2_with fail
               refine(excluded_any st au P pc ap Q qc fa L lc [] k u _ (H.out.ext (hx0.drewN _)) k1 k9).mono ?_;rintro e w1 ⟨rfl,hb1⟩;rw[C7.out];go_wp2;go_ret;exact⟨rfl,(hx0.drewN _).trans hb1⟩
             · rw[if_neg c7];have C7:=Hi (show Rev.excl ⟨st,au,ap,fa,[]⟩ k u=false by simpa using c7);clear c7;go_enter Tryz.func110,Tryz.ntmps110
               go_wp2;go_quiet (fail)
               go_wp2_with fail
               refine(possible_any k st _ k1 k9).mono ?_;rintro e w1 ⟨rfl,rfl⟩;go_wp2_with fail
               refine(excluded_any st au P pc ap Q qc fa L lc [] k u _ (H.out.ext (hx0.drewN _)) k1 k9).mono ?_;rintro e w1 ⟨rfl,hb1⟩;rw[C7.out];go_wp2;go_ret;exact⟨rfl,(hx0.drewN _).trans hb1⟩
       · have hll:log.length=l0.length+1:=(by rw[hcat];simp);have hat:log[l0.length]?=some a0:=(by rw[hcat];simp);have hlate:Rev.late log t=decide (t<a0.time):=(by unfold Rev.late;rw[hcat];simp);have hpos:decide (0<(log.length:Int))=true:=(by simp;omega);have hidx1:1≤(log.length:Int):=(by omega);have hposN:decide (0<log.length)=true:=(by simp;omega);have hposM:0<log.length:=(by omega);have hidx:(log.length:Int)-1<(log.length:Int):=(by omega);have hidx0:0≤(log.length:Int)-1:=(by omega);have hwr:IntKind.i64.wrap ((log.length:Int)-1)=(log.length:Int)-1:=IntWalk.i64_in _ (by omega);have HSA:=Hi H.out.2.2.1;have HLL:=Hi hll;have HAT:=Hi hat;have HLATE:=Hi hlate;clear hll hat hlate hcat;rw[HLATE.out];obtain⟨b,off,hL,hb,g0,g1,g2,g3⟩:=(HSA.out.ext hx0).at_ HAT.out;subst hL;have e1:((log.length:Int)-1).toNat=log.length-1:=(by omega);have g3':((w.alloc (.cells #[.int .i64 st,.int .i64 au,.slice P ap.length pc,.slice Q fa.length qc,.slice (some ⟨b,off,none⟩) log.length lc] 54)).alloc (.cells #[.int .i64 k,.int .i64 u,.int .i64 ro,.int .i64 t] 116)).cell? ⟨b,off+(log.length-1)*4+3,none⟩=some (.int .i64 a0.time):=by rw[show log.length-1=l0.length by have:=HLL.out;omega];exact g3
         have hbw:b<w.heap.size:=by obtain⟨b',off',hL',hb',-⟩:=HSA.out.at_ HAT.out;injection hL' with hL';injection hL' with hL1 hL2;omega
         have g4:w.cell? ⟨b,off+(log.length-1)*4+3,none⟩=some (.int .i64 a0.time):=by have:=g3';rwa [Ext.cell hx0 (by exact hbw)]at this
         clear g0 g1 g2 g3 hb g3';by_cases c4:t<a0.time
         · rw[if_pos (by simpa using c4)];have c4':decide (t<a0.time)=true:=(by simpa using c4);go_enter Tryz.func110,Tryz.ntmps110
           go_wp2;go_quiet (fail)
           go_wp2;go_ret;exact⟨rfl,hx0.drewN _⟩
         · rw[if_neg (by simpa using c4)];have c4':decide (t<a0.time)=false:=(by simpa using c4);by_cases c5:Rev.poss k st=false
           · rw[if_pos c5];go_enter Tryz.func110,Tryz.ntmps110
             go_wp2;go_quiet (fail)
             go_wp2_with fail
             refine(possible_any k st _ k1 k9).mono ?_;rintro e w1 ⟨rfl,rfl⟩;go_wp2;go_ret;exact⟨rfl,hx0.drewN _⟩
           · rw[if_neg c5];have c5':Rev.poss k st=true:=(by simpa using c5);clear c5;by_cases c6:bits .and .i64 ro (Rev.role k st)=0
             · rw[if_pos c6];have c6':(bits .and .i64 ro (Rev.role k st) == 0)=true:=(by rw[beq_iff_eq];exact c6);clear c6;go_enter Tryz.func110,Tryz.ntmps110
               go_wp2;go_quiet (fail)
               go_wp2_with fail
               refine(possible_any k st _ k1 k9).mono ?_;rintro e w1 ⟨rfl,rfl⟩;go_wp2;go_ret;exact⟨rfl,hx0.drewN _⟩
             · rw[if_neg c6];have c6':(bits .and .i64 ro (Rev.role k st) == 0)=false:=(by rw[beq_eq_false_iff_ne];exact c6);clear c6;by_cases c7:Rev.excl ⟨st,au,ap,fa,log⟩ k u=true
               · rw[if_pos c7];have C7:=Hi c7;clear c7;go_enter Tryz.func110,Tryz.ntmps110
                 go_wp2;go_quiet (fail)
                 go_wp2_with fail
                 refine(possible_any k st _ k1 k9).mono ?_;rintro e w1 ⟨rfl,rfl⟩;go_wp2_with fail
                 refine(excluded_any st au P pc ap Q qc fa (some ⟨b,off,none⟩) lc log k u _ (H.out.ext (hx0.drewN _)) k1 k9).mono ?_;rintro e w1 ⟨rfl,hb1⟩;rw[C7.out];go_wp2;go_ret;exact⟨rfl,(hx0.drewN _).trans hb1⟩
               · rw[if_neg c7];have C7:=Hi (show Rev.excl ⟨st,au,ap,fa,log⟩ k u=false by simpa using c7);clear c7;go_enter Tryz.func110,Tryz.ntmps110
                 go_wp2;go_quiet (fail)
                 go_wp2_with fail
                 refine(possible_any k st _ k1 k9).mono ?_;rintro e w1 ⟨rfl,rfl⟩;go_wp2_with fail
                 refine(excluded_any st au P pc ap Q qc fa (some ⟨b,off,none⟩) lc log k u _ (H.out.ext (hx0.drewN _)) k1 k9).mono ?_;rintro e w1 ⟨rfl,hb1⟩;rw[C7.out];go_wp2;go_ret;exact⟨rfl,(hx0.drewN _).trans hb1⟩

end Go.Proofs.YtfnmgcblhebdbaaGreatDoor
