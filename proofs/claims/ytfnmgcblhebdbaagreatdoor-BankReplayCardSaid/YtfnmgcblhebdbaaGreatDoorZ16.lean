/- strings.ReplaceAll of one byte by another, strings.HasPrefix, HasSuffix, Contains, Cut, slices.Equal, bits.Len64: contracts out of the library's shelf. Conditions: those of each theorem. -/
import Derived.Test.YtfnmgcblhebdbaaGreatDoorZShIt
import Derived.Test.YtfnmgcblhebdbaaGreatDoorZ4
import Derived.Shelf.Strings.Replace
import Derived.Lib.SplitLaws
namespace Go.Proofs.YtfnmgcblhebdbaaGreatDoor
set_option maxRecDepth 1000000
set_option maxHeartbeats 16000000
open Go.Shelf Go.RowKit Go.Lib

section
variable {P:Program} {ρ:Ren}
theorem countOne(L:Lays.n154 P ρ)(s:ByteArray)(c:UInt8)(w:World):Calls P (ρ.f 138) #[.string s,.string ⟨#[c]⟩] w fun e w'=>e=.returned (.int .i64 (Lib.countB s ⟨#[c]⟩))∧w'=w:=by have h:=Any.strings_Count_one { L with } s c w;have e:Lib.countB s ⟨#[c]⟩=Lib.countByte s.data.toList c:=Lib.count_one c s.data.toList;rw[e];exact h
theorem indexOne(L:Lays.n154 P ρ)(s:ByteArray)(c:UInt8)(w:World):Calls P (ρ.f 143) #[.string s,.string ⟨#[c]⟩] w fun e w'=>e=.returned (.int .i64 (Lib.index s.data.toList [c]))∧w'=w:=by
 have h:=Any.strings_Index_one { L with } s c w;rw[Lib.index_one];exact h

theorem replaceOne_some(L:Lays.n154 P ρ)(X:Builder.Extra P ρ)(s old new:ByteArray)(c:UInt8)(ho:old=⟨#[c]⟩)(hnw:new.size=1)(w:World)
    (hs:s.size≤140737488351232) (hne:old≠new) (hc0:Lib.countB s old≠0) :
    Calls P (ρ.f 154) #[.string s,.string old,.string new,.int .i64 (-1)] w fun e w' =>
     e=.returned (.string ⟨(Lib.replaceK old.data.toList new.data.toList (Lib.countB s old) s.data.toList).toArray⟩)∧Below w.heap.size w w':=by
 have hC:Calls P (ρ.f 138) #[.string s,.string old] w fun e w'=>e=.returned (.int .i64 (Lib.countB s old))∧w'=w:=by subst ho;exact countOne L s c w
 have hIx:∀ (u:ByteArray) (w:World),Calls P (ρ.f 143) #[.string u,.string old] w fun e w'=>e=.returned (.int .i64 (Lib.index u.data.toList old.data.toList))∧w'=w:=fun u w=>by subst ho;exact indexOne L u c w
 have HIX:=Hi hIx;have hold:old.size=1:=by rw[ho];rfl
 have h1:1≤old.size:=by omega
 have hmul:=Lib.countB_mul_le old h1 s.size s (Nat.le_refl _);obtain⟨K,hK⟩:∃ K:Nat,Lib.countB s old=K:=⟨_,rfl⟩;rw[hK]at hC hc0 hmul ⊢;have hcn':Lib.count s.data.toList old.data.toList=K:=hK;clear hIx ho;have hbeq:(old.toList == new.toList)=false:=(Lib.bytes_beq_false_iff old new).2 hne;have hcz:((K:Int) == 0)=false:=beq_eq_false_iff_ne.2 (by omega);have ho0:(0:Int)<(old.size:Int):=by omega
 have hlenL:s.data.toList.length=s.size:=(Lib.size_eq s).symm;have hlenO:old.data.toList.length=old.size:=(Lib.size_eq old).symm;have hK1:1≤K:=by omega
 have hKo:K*old.size≤s.size:=hmul;have hKs:K≤s.size:=Nat.le_trans (Nat.le_mul_of_pos_right K (by omega)) hKo;have hga:wrap64 ((s.size:Int)+wrap64 ((K:Int)*wrap64 ((new.size:Int)-(old.size:Int))))=((s.size:Nat):Int):=by rw[hnw,hold];have e1:wrap64 (((1:Nat):Int)-((1:Nat):Int))=0:=(IntWalk.wrap64_in _ ⟨by decide,by decide⟩).trans (by decide);rw[e1,Int.mul_zero,show wrap64 0=0 from IntWalk.wrap64_in _ ⟨by decide,by decide⟩,Int.add_zero];exact IntWalk.wrap64_in _ ⟨by omega,by omega⟩
 have hKcount:K≤Lib.count (s.data.toList.drop 0) old.data.toList:=by rw[List.drop_zero,hcn'];exact Nat.le_refl _
 clear hK hcn' hmul;have hod:decide (0<old.size)=true:=decide_eq_true (by omega)
 (
  have mixed:=L.mixed;have t72:=L.t72;have a72:=L.a72;have z72:=L.z72;have v72:=L.v72;have u72:=run_underlying L.t72;have t70:=L.t70;have a70:=L.a70;have z70:=L.z70;have v70:=L.v70;have u70:=run_underlying L.t70;have t37:=L.t37;have a37:=L.a37;have z37:=L.z37;have v37:=L.v37;have u37:=run_underlying L.t37;have t3:=L.t3;have a3:=L.a3;have z3:=L.z3;have v3:=L.v3;have u3:=run_underlying L.t3;have t9:=L.t9;have a9:=L.a9;have z9:=L.z9;have v9:=L.v9;have u9:=run_underlying L.t9;have t4:=L.t4;have a4:=L.a4;have z4:=L.z4;have v4:=L.v4;have u4:=run_underlying L.t4;have e138:∀ args w,(callFunc (ρ.f 138) args).run P w=.ok (.enter (ρ.f 138) args) w:=enters_of L.f138 (by kernel_rfl) rfl;have e143:∀ args w,(callFunc (ρ.f 143) args).run P w=.ok (.enter (ρ.f 143) args) w:=enters_of L.f143 (by kernel_rfl) rfl;have e165:∀ args w,(callFunc (ρ.f 165) args).run P w=.ok (.enter (ρ.f 165) args) w:=enters_of L.f165 (by kernel_rfl) rfl;have e166:∀ args w,(callFunc (ρ.f 166) args).run P w=.ok (.enter (ρ.f 166) args) w:=enters_of L.f166 (by kernel_rfl) rfl;have e169:∀ args w,(callFunc (ρ.f 169) args).run P w=.ok (.enter (ρ.f 169) args) w:=enters_of L.f169 (by kernel_rfl) rfl;go_enter L.f154,Body.n154_ntmps ρ
  go_wp2_with (first | (go_at_fn (ρ.f 138);refine hC.mono ?_;rintro e w' ⟨rfl,hw⟩;rw[hw]))
  (
  clear hC
  try rw[hga]
  refine(Any.Builder_Grow_fresh { L with } X w.heap.size w.heap.size _ _ (Nat.le_refl _) (heap_alloc_new w _) (by simp) (by omega)).mono ?_;rintro e w1 ⟨rfl,hb0,hb1⟩;have H1:=Any.hidR (Or.inr hb0:Lib.IsBuilder (ρ.t 72) (ρ.t 5) w.heap.size w.heap.size (Lib.byteCells []) w1);have Hb1:=Any.hidR (((Below.refl w.heap.size w).alloc (Nat.le_refl _) _).trans hb1);clear hb0 hb1 hga;go_wp2_with fail
  go_loopg [11,53] K (fun g s11 s53 wx=>∃ (i start:Nat) (acc:List UInt8),s53=.int .i64 i∧s11=.int .i64 start∧i+g=K∧start≤s.size ∧
   Hid (Lib.IsBuilder (ρ.t 72) (ρ.t 5) w.heap.size w.heap.size (Lib.byteCells acc) wx)∧Hid (Below w.heap.size w wx)∧Hid (acc ++ Lib.replaceK old.data.toList new.data.toList g (s.data.toList.drop start)=Lib.replaceK old.data.toList new.data.toList K s.data.toList) ∧
   g≤Lib.count (s.data.toList.drop start) old.data.toList∧acc.length=start)
  case atStart=>exact⟨0,0,[],rfl,rfl,by omega,Nat.zero_le _,H1,Hb1,Any.hidR (by simp),hKcount,rfl⟩
  case round =>
   obtain⟨i,start,acc,rfl,rfl,hig,hst,HB,HW,HR,hgc,hbd⟩:=hrel;have hBw:w.heap.size≤wr.heap.size:=HW.out.size;have c1:(0:Int)≤(start:Int):=(by omega);have c2:(start:Int)≤(s.size:Int):=(by omega);cases gk with
   | zero =>
    -- all K are replaced: 'b.WriteString(s[start:]);return b.String()'
    have hiK:¬ ((i:Int)<(K:Int)):=(by omega);go_wp2_with fail
    refine(Any.Builder_WriteString { L with } X w.heap.size w.heap.size _ _ wr HB.out (by rw[Lib.byteCells_length,ByteArray.size_extract];omega) hBw).mono ?_;rintro e w3 ⟨rfl,h3,hb3⟩;rw[Lib.strCells_eq,Lib.extract_to_end,← Lib.byteCells_append]at h3;have hfin:acc ++ s.data.toList.drop start=Lib.replaceK old.data.toList new.data.toList K s.data.toList:=HR.out;rw[hfin]at h3;have H3:=Any.hidR (Or.inr h3:Lib.IsBuilder (ρ.t 72) (ρ.t 5) w.heap.size w.heap.size _ w3);have Hb3:=Any.hidR (HW.out.trans hb3);have hBw3:w.heap.size≤w3.heap.size:=Hb3.out.size;clear h3 hb3 hfin;go_wp2_with fail
    refine(Any.Builder_String_any { L with } X w.heap.size w.heap.size _ w3 H3.out hBw3).mono ?_;rintro e w5 ⟨rfl,hb5⟩;have Hb5:=Any.hidR (Hb3.out.trans hb5);clear hb5;go_wp2;go_ret;exact⟨rfl,Hb5.out⟩
   | succ g =>
    have hiK:(i:Int)<(K:Int):=(by omega);obtain⟨j,hj⟩:=Lib.index_of_count (s:=s.data.toList.drop start) (old:=old.data.toList) (by omega);have hroom:j+old.size≤s.size-start:=by have:=Lib.index_room (s.data.toList.drop start) old.data.toList (by rw[hj];omega);rw[hj,List.length_drop,hlenL,hlenO]at this;omega
    have c3:(start:Int)≤(start:Int)+(j:Int):=(by omega);have c4:(start:Int)+(j:Int)≤(s.size:Int):=(by omega);have hnext:Lib.byteCells acc ++ Lib.strCells (s.extract start (start+j)) ++ Lib.strCells new=Lib.byteCells (acc ++ (s.data.toList.drop start).take j ++ new.data.toList):=by rw[Lib.strCells_eq,Lib.strCells_eq,Lib.extract_data,Nat.add_sub_cancel_left,← Lib.byteCells_append,← Lib.byteCells_append]
    have hrep:(acc ++ (s.data.toList.drop start).take j ++ new.data.toList) ++ Lib.replaceK old.data.toList new.data.toList g (s.data.toList.drop (start+j+old.size))=Lib.replaceK old.data.toList new.data.toList K s.data.toList:=by rw[← HR.out,Lib.replaceK_hit _ _ g _ j hj,List.drop_drop,hlenO];simp only[List.append_assoc,Nat.add_assoc]
    have hcnt:g≤Lib.count (s.data.toList.drop (start+j+old.size)) old.data.toList:=by have:=Lib.count_hit (s:=s.data.toList.drop start) (sub:=old.data.toList) (i:=j) (fun e=>by rw[e]at hlenO;simp at hlenO;omega) hj;rw[List.drop_drop,hlenO]at this;rw[show start+j+old.size=start+(j+old.size)by omega];omega
    have htl:((s.data.toList.drop start).take j).length=j:=(by rw[List.length_take,List.length_drop,hlenL];omega);have Hn:=Any.hidR hnext;have Hrep:=Any.hidR hrep;clear hnext hrep HR;go_wp2_with (first | (go_at_fn (ρ.f 143);refine(HIX.out _ _).mono ?_;rintro e w' ⟨rfl,hw⟩;rw[hw,Lib.extract_to_end,hj]))
    refine(Any.Builder_WriteString { L with } X w.heap.size w.heap.size _ (s.extract start (start+j)) wr HB.out (by rw[Lib.byteCells_length,ByteArray.size_extract];omega) hBw).mono ?_;rintro e w3 ⟨rfl,h3,hb3⟩;have hBw3:w.heap.size≤w3.heap.size:=Nat.le_trans hBw hb3.size;have H3:=Any.hidR h3;have Hb3:=Any.hidR hb3;clear h3 hb3;go_wp2_with fail
    refine(Any.Builder_WriteString { L with } X w.heap.size w.heap.size _ new w3 (Or.inr H3.out) (by rw[List.length_append,Lib.byteCells_length,Lib.strCells_length,ByteArray.size_extract];omega) hBw3).mono ?_;rintro e w4 ⟨rfl,h4,hb4⟩;rw[Hn.out]at h4;have H4:=Any.hidR (Or.inr h4:Lib.IsBuilder (ρ.t 72) (ρ.t 5) w.heap.size w.heap.size _ w4);have Hb4:=Any.hidR ((HW.out.trans Hb3.out).trans hb4);clear h4 hb4;go_wp2
    go_roundg g
    case measure=>omega
    case rel=>exact⟨i+1,start+j+old.size,_,by first | rfl | (simp;unfold wrap64;omega),by first | rfl | (simp;done) | (simp;omega) | (simp;unfold wrap64;omega),by omega,by omega,H4,Hb4,Hrep,hcnt,by simp only[List.length_append,htl,← Lib.size_eq];omega⟩))



theorem replaceK_map(c d:UInt8):∀ l:List UInt8,Lib.replaceK [c] [d] (l.count c) l=l.map fun x=>if x=c then d else x
 | []=>by simp[Lib.replaceK]
 | b :: l=>by
  have ih:=replaceK_map c d l;by_cases h:b=c
  · subst h;have h0:Lib.index (b :: l) [b]=(0:Nat):=(by rw[Lib.index];simp[List.isPrefixOf]);rw[List.count_cons_self,Lib.replaceK_hit _ _ _ _ 0 h0];simp[ih]
  · have hp:([c]:List UInt8).isPrefixOf (b :: l)=false:=(by simp[List.isPrefixOf,Ne.symm h]);have hix:Lib.index (b :: l) [c]=if Lib.index l [c] == -1 then -1 else Lib.index l [c]+1:=(by rw[Lib.index,hp];simp);rw[List.count_cons_of_ne (by simpa using h),List.map_cons,if_neg h,← ih];cases hk:l.count c with
    | zero=>rfl
    | succ k =>
     obtain⟨i,hi⟩:=Lib.index_of_count (s:=l) (old:=[c]) (by rw[Lib.count_one];omega);have h2:Lib.index (b :: l) [c]=((i+1:Nat):Int):=by rw[hix,hi,if_neg (by rw[beq_iff_eq];omega)];omega
     rw[Lib.replaceK_hit _ _ _ _ _ h2,Lib.replaceK_hit _ _ _ _ _ hi];simp
def feed (s:ByteArray):ByteArray:=⟨(s.data.toList.map fun x=>if x=10 then 32 else x).toArray⟩
theorem replaceAll_feed(L:Lays.n155 P ρ)(X:Builder.Extra P ρ)(s:ByteArray)(w:World)(hs:s.size≤140737488351232) :
    Calls P (ρ.f 155) #[.string s,.string ⟨#[10]⟩,.string ⟨#[32]⟩] w fun e w'=>e=.returned (.string (feed s))∧Ext w w':=by
 have c:Calls P (ρ.f 154) #[.string s,.string ⟨#[10]⟩,.string ⟨#[32]⟩,.int .i64 (-1)] w fun e w'=>e=.returned (.string (feed s))∧Ext w w':=by
  by_cases hc0:Lib.countB s ⟨#[10]⟩=0
  · have hC:=countOne { L with } s 10 w;rw[hc0]at hC;have hf:feed s=s:=by
     have h1:s.data.toList.count 10=0:=by have:=hc0;unfold Lib.countB at this;rwa [show(⟨#[10]⟩:ByteArray).data.toList=[10]from rfl,Lib.count_one]at this
     have h2:=replaceK_map 10 32 s.data.toList;rw[h1]at h2;unfold feed;rw[← h2];rfl
    rw[hf];have L':Lays.n154 P ρ:={ L with };have hbeq:((⟨#[10]⟩:ByteArray).toList == (⟨#[32]⟩:ByteArray).toList)=false:=(Lib.bytes_beq_false_iff _ _).2 (by decide);have hnz:((-1:Int) == 0)=false:=rfl;have t3:=L.t3;have a3:=L.a3;have z3:=L.z3;have v3:=L.v3;have t9:=L.t9;have a9:=L.a9;have z9:=L.z9;have v9:=L.v9;have t4:=L.t4;have a4:=L.a4;have z4:=L.z4;have v4:=L.v4;have e138:∀ args w,(callFunc (ρ.f 138) args).run P w=.ok (.enter (ρ.f 138) args) w:=enters_of L.f138 (by kernel_rfl) rfl;clear hc0 hf;go_enter L.f154,Body.n154_ntmps ρ
    go_wp2_with (first | (go_at_fn (ρ.f 138);refine hC.mono ?_;rintro e w' ⟨rfl,hw⟩;rw[hw]))
    go_ret;exact⟨rfl,Ext.refl _⟩
  · refine(replaceOne_some { L with } X s ⟨#[10]⟩ ⟨#[32]⟩ 10 rfl rfl w hs (by decide) hc0).mono ?_;rintro e w' ⟨rfl,hb⟩;refine⟨?_,hb⟩;have h2:=replaceK_map 10 32 s.data.toList;unfold feed;rw[← h2];unfold Lib.countB;rw[show(⟨#[10]⟩:ByteArray).data.toList=[10]from rfl,Lib.count_one]
 have t3:=L.t3;have a3:=L.a3;have z3:=L.z3;have v3:=L.v3;have t9:=L.t9;have a9:=L.a9;have z9:=L.z9;have v9:=L.v9;have e154:∀ args w,(callFunc (ρ.f 154) args).run P w=.ok (.enter (ρ.f 154) args) w:=enters_of L.f154 (by kernel_rfl) rfl;go_enter L.f155,Body.n155_ntmps ρ
 go_wp2_with (go_at_fn (ρ.f 154);refine c.mono ?_;rintro e w' ⟨rfl,hw⟩)
 go_ret;exact⟨rfl,hw⟩
end
theorem replaceAll_any(s:ByteArray)(w:World)(hs:s.size≤140737488351232) :
    Calls Tryz.prog 130 #[.string s,.string ⟨#[10]⟩,.string ⟨#[32]⟩] w fun e w'=>e=.returned (.string (feed s))∧Ext w w' :=
 replaceAll_feed Tryz.lays155 Tryz.Builder_Extra_155 s w hs
end Go.Proofs.YtfnmgcblhebdbaaGreatDoor
namespace Go.Proofs.YtfnmgcblhebdbaaGreatDoor
open Go.RowKit Go.Lib

namespace It
theorem by_iff(s:ByteArray)(i:Nat):by_ s i=32↔s.data.toList[i]?=some 32:=by
 unfold by_;rw[List.getD_eq_getElem?_getD];cases h:s.data.toList[i]? with
 | none=>simp
 | some c =>
  simp only[Option.getD_some,Option.some.injEq];constructor
  · intro e;have:c.toNat=32:=by omega
    exact UInt8.toNat_inj.1 (by rw[this];rfl)
  · intro e;subst e;rfl
theorem len_eq(s:ByteArray):s.data.toList.length=s.size:=rfl
theorem pre_blank(s:ByteArray):Lib.hasPrefix s.data.toList [32]=(decide (0<s.size) && decide (by_ s 0=32)):=by
 rw[Bool.eq_iff_iff];simp only[Bool.and_eq_true,decide_eq_true_eq,by_iff];rw[← len_eq];unfold Lib.hasPrefix;generalize s.data.toList=l;cases l with
 | nil=>simp
 | cons a r=>simp[List.isPrefixOf];exact eq_comm
theorem suf_blank(s:ByteArray):Lib.hasSuffix s.data.toList [32]=(decide (0<s.size) && decide (by_ s (s.size-1)=32)):=by
 rw[Bool.eq_iff_iff];simp only[Bool.and_eq_true,decide_eq_true_eq,by_iff];rw[← len_eq];unfold Lib.hasSuffix;generalize s.data.toList=l;rw[List.isSuffixOf_iff_suffix];constructor
 · rintro⟨t,rfl⟩;simp
 · rintro⟨h0,h1⟩;have hne:l≠[]:=List.length_pos_iff.1 h0;refine⟨l.dropLast,?_⟩;have e:=List.dropLast_concat_getLast hne;have h2:l.getLast hne=32:=by rw[List.getLast_eq_getElem];rw[List.getElem?_eq_getElem (by omega)]at h1;exact Option.some.inj h1
   rw[h2]at e;exact e
theorem occ_two(l:List UInt8)(i:Nat):Lib.occAt l [32,32] i=true↔l[i]?=some 32∧l[i+1]?=some 32:=by
 constructor
 · intro h;exact⟨Lib.occAt_head rfl h,Lib.occAt_second rfl h⟩
 · rintro⟨h1,h2⟩;obtain⟨a1,e1⟩:=List.getElem?_eq_some_iff.1 h1;obtain⟨a2,e2⟩:=List.getElem?_eq_some_iff.1 h2;unfold Lib.occAt;rw[List.drop_eq_getElem_cons a1,List.drop_eq_getElem_cons a2,e1,e2];simp[List.isPrefixOf]
theorem two_blanks(s:ByteArray):Lib.contains s.data.toList [32,32]=!allN (fun i=>!(decide (i+1<s.size) && decide (by_ s i=32) && decide (by_ s (i+1)=32))) s.size:=by
 rw[Bool.eq_iff_iff];unfold Lib.contains;rw[decide_eq_true_eq,Bool.not_eq_true',← Bool.not_eq_true,allN_iff];rcases Lib.index_spec s.data.toList [32,32]with ⟨h1,h2⟩ | ⟨i,h1,h2,h3,_⟩
 · rw[h1];constructor
   · intro h;exact absurd h (by decide)
   · intro h;exact absurd (fun i hi=>by
      have h3:=h2 i (by rw[len_eq];omega);have h4:¬ (s.data.toList[i]?=some 32∧s.data.toList[i+1]?=some 32):=fun g=>by rw[(occ_two _ _).2 g]at h3;cases h3
      rw[← by_iff,← by_iff]at h4;simp only[Bool.not_eq_true',Bool.and_eq_false_iff,decide_eq_false_iff_not];by_cases g:by_ s i=32
      · exact Or.inr (fun g2=>h4 ⟨g,g2⟩)
      · exact Or.inl (Or.inr g)) h
 · constructor
   · intro _ h;obtain⟨g1,g2⟩:=(occ_two _ _).1 h3;obtain⟨a2,_⟩:=List.getElem?_eq_some_iff.1 g2;rw[len_eq]at a2;rw[← by_iff]at g1 g2;have:=h i (by omega);rw[g1,g2,decide_eq_true a2]at this;simp at this
   · intro _;omega
theorem nrmC_eq(s:ByteArray):nrmC s=(allN (fun i=>ltr (by_ s i) || decide (by_ s i=32)) s.size && !Lib.hasPrefix s.data.toList [32] && !Lib.hasSuffix s.data.toList [32] && !Lib.contains s.data.toList [32,32]):=by
 unfold nrmC;rw[pre_blank,suf_blank,two_blanks,Bool.not_not]

def cuts:List UInt8→List (List UInt8)
 | []=>[[]]
 | c :: l=>if c=46 then[] :: cuts l else(c :: (cuts l).headD []) :: (cuts l).tail
theorem cuts_ne(l:List UInt8):cuts l≠[]:=by cases l <;> simp[cuts];split <;> simp
def ofL (l:List UInt8):ByteArray:=⟨l.toArray⟩
theorem cut_no{l:List UInt8}(h:(Lib.cut l [46]).2.2=false):cuts l=[l]∧(Lib.cut l [46]).1=l:=by
 have hix:Lib.index l [46]=-1:=by
  unfold Lib.cut at h;have:=Lib.index_ge l [46];by_cases g:0≤Lib.index l [46]
  · rw[if_pos g]at h;cases h
  · omega
 refine⟨?_,by unfold Lib.cut;rw[hix,if_neg (by decide)]⟩;clear h
 induction l with
 | nil=>rfl
 | cons b l ih =>
  rw[Lib.index]at hix;by_cases hb:b=46
  · subst hb;simp[List.isPrefixOf]at hix
  · have hp:([46]:List UInt8).isPrefixOf (b :: l)=false:=(by simp[List.isPrefixOf,Ne.symm hb]);rw[hp]at hix;have:Lib.index l [46]=-1:=by
     have:=Lib.index_ge l [46];by_cases g:Lib.index l [46]=-1
     · exact g
     · simp[g]at hix;omega
    rw[cuts,if_neg hb,ih this];rfl
theorem cut_yes{l:List UInt8}(h:(Lib.cut l [46]).2.2=true):cuts l=(Lib.cut l [46]).1 :: cuts (Lib.cut l [46]).2.1:=by
 induction l with
 | nil=>revert h;decide
 | cons b l ih =>
  by_cases hb:b=46
  · subst hb;have hix:Lib.index (46 :: l) [46]=0:=(by rw[Lib.index];simp[List.isPrefixOf]);have e:Lib.cut (46 :: l) [46]=([],l,true):=(by unfold Lib.cut;rw[hix];simp);rw[e,cuts,if_pos rfl]
  · have hp:([46]:List UInt8).isPrefixOf (b :: l)=false:=(by simp[List.isPrefixOf,Ne.symm hb]);have hix:Lib.index (b :: l) [46]=if Lib.index l [46] == -1 then -1 else Lib.index l [46]+1:=(by rw[Lib.index,hp];simp);have hge:=Lib.index_ge l [46];have hm:Lib.index l [46]≠-1:=fun g=>by unfold Lib.cut at h;rw[hix,g]at h;simp at h
    obtain⟨i,hi⟩:∃ i:Nat,Lib.index l [46]=i:=⟨(Lib.index l [46]).toNat,by omega⟩;have h2:Lib.index (b :: l) [46]=((i+1:Nat):Int):=(by rw[hix,hi,if_neg (by rw[beq_iff_eq];omega)];omega);have e1:Lib.cut l [46]=(l.take i,l.drop (i+1),true):=(by unfold Lib.cut;rw[hi,if_pos (by omega)];rfl);have e2:Lib.cut (b :: l) [46]=(b :: l.take i,l.drop (i+1),true):=(by unfold Lib.cut;rw[h2,if_pos (by omega)];simp);have:=ih (by rw[e1]);rw[e1]at this;rw[e2,cuts,if_neg hb,this];rfl
def segL (l:List UInt8):Bool:=seg (ofL l)
def codeC (s:ByteArray):Bool:=decide (s.size≤24) && (decide ((cuts s.data.toList).length≤5) && (cuts s.data.toList).all segL)
theorem prn_feed(s:ByteArray)(most:Nat):prn (feed s) most false=prn s most true:=by
 have hsz:(feed s).size=s.size:=by show(s.data.toList.map _).toArray.size=s.data.toList.length;simp
 unfold prn;rw[hsz]
 congr 1
 refine allN_congr fun i hi=>?_;have hi':i<s.data.toList.length:=hi;have e1:by_ (feed s) i=if by_ s i=10 then 32 else by_ s i:=by
  unfold by_ feed;rw[List.getD_eq_getElem?_getD,List.getD_eq_getElem?_getD,List.getElem?_map,List.getElem?_eq_getElem hi'];simp only[Option.map_some,Option.getD_some];by_cases h:s.data.toList[i]=10
  · rw[if_pos h,h];rfl
  · rw [if_neg h, if_neg (fun e => h (UInt8.toNat_inj.1 (by have : (s.data.toList[i]).toNat = 10 := by omega
                                                            rw[this];rfl)))]
 rw[e1];unfold okc;by_cases h:by_ s i=10
 · rw[if_pos h,h];rfl
 · rw[if_neg h,decide_eq_false h];simp
end It
end Go.Proofs.YtfnmgcblhebdbaaGreatDoor
namespace Go.Proofs.YtfnmgcblhebdbaaGreatDoor
set_option maxRecDepth 100000
set_option maxHeartbeats 1600000
open Go.RowKit

def Gm (w:World):Prop:=∃ m:Int,w.cell? ⟨1,0,none⟩=some (.int .i64 m)
theorem Gm.ext{w w':World}(h:Gm w)(he:Ext w w'):Gm w':=by obtain⟨m,hm⟩:=h;exact⟨m,he.keep hm⟩
theorem hasPrefix_any(s p:ByteArray)(w:World):Calls Tryz.prog 152 #[.string s,.string p] w fun e w'=>e=.returned (.bool (Lib.hasPrefix s.data.toList p.data.toList))∧w'=w:=Any.strings_HasPrefix Tryz.lays99 s p w
theorem hasSuffix_any(s p:ByteArray)(w:World)(hs:s.size≤9223372036854775807):Calls Tryz.prog 153 #[.string s,.string p] w fun e w'=>e=.returned (.bool (Lib.hasSuffix s.data.toList p.data.toList))∧w'=w:=Any.strings_HasSuffix Tryz.lays100 s p w hs
theorem contains_any(s p:ByteArray)(w:World)(hs:s.size<4294967281)(h:Gm w):Calls Tryz.prog 154 #[.string s,.string p] w fun e w'=>e=.returned (.bool (Lib.contains s.data.toList p.data.toList))∧w'=w:=by obtain⟨m,hm⟩:=h;exact Any.strings_Contains Tryz.lays144 s p m w hs hm
theorem cut_any(s p:ByteArray)(w:World)(hs:s.size<4294967281)(h:Gm w):Calls Tryz.prog 142 #[.string s,.string p] w fun e w'=>e=.returned (.tuple #[.string ⟨(Lib.cut s.data.toList p.data.toList).1.toArray⟩,.string ⟨(Lib.cut s.data.toList p.data.toList).2.1.toArray⟩,.bool (Lib.cut s.data.toList p.data.toList).2.2])∧∃ n,w'=w.drewN n:=by
 obtain⟨m,hm⟩:=h;exact Any.strings_Cut Tryz.lays145 s p m w hs hm


theorem normalized_any(s:ByteArray)(w:World)(hs:s.size<4294967281)(hg:Gm w) :
    Calls Tryz.prog 133 #[.string s] w fun e w'=>e=.returned (.bool (It.nrmC s))∧w=w':=by
 obtain⟨v,hv⟩:∃ v,It.nrmC s=v:=⟨_,rfl⟩;have HV:=Hi hv;rw[hv];clear hv;have HG:=Hi hg;clear hg;go_enter Tryz.func133,Tryz.ntmps133
 go_wp2
 go_loop [3] (fun i=>∃ k:Nat,k≤s.size∧i=.int .i64 k∧Hid (It.allN (fun i=>It.ltr (It.by_ s i) || decide (It.by_ s i=32)) k=true)) (fun i=>s.size-(intOf i).toNat)
 case atStart=>exact⟨0,by omega,rfl,Hi rfl⟩
 case round =>
  obtain⟨k,hk,rfl,HA⟩:=hrel;by_cases hlt:k<s.size
  · have hby:=It.by_at s hlt;have HE:Hid ((fun i=>It.ltr (It.by_ s i) || decide (It.by_ s i=32)) k=false→Hid (v=false)):=Hi fun g=>Hi (by rw[← HV.out];unfold It.nrmC;rw[It.allN_no hlt g];simp)
    have HN:Hid ((fun i=>It.ltr (It.by_ s i) || decide (It.by_ s i=32)) k=true→Hid (It.allN (fun i=>It.ltr (It.by_ s i) || decide (It.by_ s i=32)) (k+1)=true)):=Hi fun g=>Hi (It.allN_next HA.out g);obtain⟨q1,hq1⟩:∃ q,It.wi (s[k].toNat:Int) 97 122=q:=⟨_,rfl⟩;obtain⟨q2,hq2⟩:∃ q,It.wi (s[k].toNat:Int) 48 57=q:=⟨_,rfl⟩;have hlt':It.ltr (s[k].toNat:Int)=(q1 || q2):=(by rw[← hq1,← hq2];rfl);have HLT:=Hi hlt';have HQ1:=Hi hq1;have HQ2:=Hi hq2;have hb8:(s[k].toNat:Int)<256:=by have:=s[k].toNat_lt;omega
    clear hlt' hq1 hq2;by_cases h32:(s[k].toNat:Int)=32
    · have e1:((s[k].toNat:Int) != 32)=false:=(by rw[h32];rfl);have HF:=HN.out (by show(It.ltr (It.by_ s k) || decide (It.by_ s k=32))=true;rw[hby];rw[decide_eq_true h32,Bool.or_true]);clear hby h32;go_wp2_with (go_at_call 101;refine(within_any _ _ _ _).mono ?_;rintro e w' ⟨rfl,rfl⟩;first | rw[HQ1.out] | rw[HQ2.out])
      all_goals
       go_round
       case rel=>exact⟨k+1,by omega,by go_num,HF⟩
       case measure=>simp[intOf];omega
    · have e1:((s[k].toNat:Int) != 32)=true:=(by rw[bne_iff_ne];exact h32);cases q1 with
      | true =>
       have HF:=HN.out (by show(It.ltr (It.by_ s k) || decide (It.by_ s k=32))=true;rw[hby];rw[HLT.out];rfl);clear hby h32;go_wp2_with (go_at_call 101;refine(within_any _ _ _ _).mono ?_;rintro e w' ⟨rfl,rfl⟩;first | rw[HQ1.out] | rw[HQ2.out])
       all_goals
        go_round
        case rel=>exact⟨k+1,by omega,by go_num,HF⟩
        case measure=>simp[intOf];omega
      | false =>
       cases q2 with
       | true =>
        have HF:=HN.out (by show(It.ltr (It.by_ s k) || decide (It.by_ s k=32))=true;rw[hby];rw[HLT.out];rfl);clear hby h32;go_wp2_with (go_at_call 101;refine(within_any _ _ _ _).mono ?_;rintro e w' ⟨rfl,rfl⟩;first | rw[HQ1.out] | rw[HQ2.out])
        all_goals
         go_round
         case rel=>exact⟨k+1,by omega,by go_num,HF⟩
         case measure=>simp[intOf];omega
       | false =>
        have HF:=HE.out (by show(It.ltr (It.by_ s k) || decide (It.by_ s k=32))=false;rw[hby];rw[HLT.out,decide_eq_false h32];rfl);clear hby h32;go_wp2_with (go_at_call 101;refine(within_any _ _ _ _).mono ?_;rintro e w' ⟨rfl,rfl⟩;first | rw[HQ1.out] | rw[HQ2.out])
        all_goals
         go_ret;exact⟨ret_bool HF.out.symm,rfl⟩
  · obtain rfl:k=s.size:=by omega
    obtain⟨b1,hb1⟩:∃ b,Lib.hasPrefix s.data.toList (⟨#[32]⟩:ByteArray).data.toList=b:=⟨_,rfl⟩;obtain⟨b2,hb2⟩:∃ b,Lib.hasSuffix s.data.toList (⟨#[32]⟩:ByteArray).data.toList=b:=⟨_,rfl⟩;obtain⟨b3,hb3⟩:∃ b,Lib.contains s.data.toList (⟨#[32,32]⟩:ByteArray).data.toList=b:=⟨_,rfl⟩;have HF:Hid (v=(!b1 && !b2 && !b3)):=Hi (by rw[← HV.out,It.nrmC_eq,HA.out,← hb1,← hb2,← hb3];rfl)
    have HB1:=Hi hb1;have HB2:=Hi hb2;have HB3:=Hi hb3;clear hb1 hb2 hb3;cases b1 <;> cases b2 <;> cases b3
    all_goals
     go_wp2_with (first
      | (go_at_call 152;refine(hasPrefix_any _ _ _).mono ?_;rintro e w' ⟨rfl,rfl⟩;rw[HB1.out])
      | (go_at_call 153;refine(hasSuffix_any _ _ _ (by omega)).mono ?_;rintro e w' ⟨rfl,rfl⟩;rw[HB2.out])
      | (go_at_call 154;refine(contains_any _ _ _ hs HG.out).mono ?_;rintro e w' ⟨rfl,rfl⟩;rw[HB3.out]))
     go_ret;exact⟨ret_bool HF.out.symm,rfl⟩
set_option maxRecDepth 100000
set_option maxHeartbeats 6400000
open Go.RowKit

namespace It
def SegS (s:ByteArray)(k:Nat)(r p0 p1 p2 p3 p4:ByteArray):Prop :=
 ∃ T:List (List UInt8),T.length=k∧cuts s.data.toList=T ++ cuts r.data.toList∧T.map ofL=[p0,p1,p2,p3,p4].take k
def SegR (s:ByteArray)(n:Nat)(ok:Bool)(p0 p1 p2 p3 p4:ByteArray):Prop :=
 ok=decide ((cuts s.data.toList).length≤5)∧(ok=true→(cuts s.data.toList).length=n∧n≤5∧(cuts s.data.toList).map ofL=[p0,p1,p2,p3,p4].take n)
theorem segS_start(s p0 p1 p2 p3 p4:ByteArray):SegS s 0 s p0 p1 p2 p3 p4:=⟨[],rfl,rfl,rfl⟩
theorem segS_full{s r p0 p1 p2 p3 p4:ByteArray}(h:SegS s 5 r p0 p1 p2 p3 p4):SegR s 0 false p0 p1 p2 p3 p4:=by
 obtain⟨T,h1,h2,_⟩:=h;refine⟨?_,fun e=>by cases e⟩;rw[h2,List.length_append,h1];have:=List.length_pos_iff.2 (cuts_ne r.data.toList);exact(decide_eq_false (by omega)).symm

theorem segS_go0{s r p0 p1 p2 p3 p4 h t:ByteArray}{m:Bool}(hs:SegS s 0 r p0 p1 p2 p3 p4)(hh:(Lib.cut r.data.toList [46]).1=h.data.toList)(ht:(Lib.cut r.data.toList [46]).2.1=t.data.toList)(hm:(Lib.cut r.data.toList [46]).2.2=m) :
    (m=true→SegS s (0+1) t h p1 p2 p3 p4)∧(m=false→SegR s (0+1) true h p1 p2 p3 p4):=by
 obtain⟨T,h1,h2,h3⟩:=hs;constructor
 · intro e;subst e;have:=cut_yes hm;rw[hh,ht]at this;refine⟨T ++ [h.data.toList],by simp[h1],by rw[h2,this];simp,?_⟩;rw[List.map_append,h3];rfl
 · intro e;subst e;obtain⟨g1,g2⟩:=cut_no hm;rw[g1,← g2,hh]at h2;have hl:(cuts s.data.toList).length=0+1:=(by rw[h2,List.length_append,h1];rfl);refine⟨by rw[hl];rfl,fun _=>⟨hl,by omega,?_⟩⟩;rw[h2,List.map_append,h3];rfl
theorem segS_go1{s r p0 p1 p2 p3 p4 h t:ByteArray}{m:Bool}(hs:SegS s 1 r p0 p1 p2 p3 p4)(hh:(Lib.cut r.data.toList [46]).1=h.data.toList)(ht:(Lib.cut r.data.toList [46]).2.1=t.data.toList)(hm:(Lib.cut r.data.toList [46]).2.2=m) :
    (m=true→SegS s (1+1) t p0 h p2 p3 p4)∧(m=false→SegR s (1+1) true p0 h p2 p3 p4):=by
 obtain⟨T,h1,h2,h3⟩:=hs;constructor
 · intro e;subst e;have:=cut_yes hm;rw[hh,ht]at this;refine⟨T ++ [h.data.toList],by simp[h1],by rw[h2,this];simp,?_⟩;rw[List.map_append,h3];rfl
 · intro e;subst e;obtain⟨g1,g2⟩:=cut_no hm;rw[g1,← g2,hh]at h2;have hl:(cuts s.data.toList).length=1+1:=(by rw[h2,List.length_append,h1];rfl);refine⟨by rw[hl];rfl,fun _=>⟨hl,by omega,?_⟩⟩;rw[h2,List.map_append,h3];rfl
theorem segS_go2{s r p0 p1 p2 p3 p4 h t:ByteArray}{m:Bool}(hs:SegS s 2 r p0 p1 p2 p3 p4)(hh:(Lib.cut r.data.toList [46]).1=h.data.toList)(ht:(Lib.cut r.data.toList [46]).2.1=t.data.toList)(hm:(Lib.cut r.data.toList [46]).2.2=m) :
    (m=true→SegS s (2+1) t p0 p1 h p3 p4)∧(m=false→SegR s (2+1) true p0 p1 h p3 p4):=by
 obtain⟨T,h1,h2,h3⟩:=hs;constructor
 · intro e;subst e;have:=cut_yes hm;rw[hh,ht]at this;refine⟨T ++ [h.data.toList],by simp[h1],by rw[h2,this];simp,?_⟩;rw[List.map_append,h3];rfl
 · intro e;subst e;obtain⟨g1,g2⟩:=cut_no hm;rw[g1,← g2,hh]at h2;have hl:(cuts s.data.toList).length=2+1:=(by rw[h2,List.length_append,h1];rfl);refine⟨by rw[hl];rfl,fun _=>⟨hl,by omega,?_⟩⟩;rw[h2,List.map_append,h3];rfl
theorem segS_go3{s r p0 p1 p2 p3 p4 h t:ByteArray}{m:Bool}(hs:SegS s 3 r p0 p1 p2 p3 p4)(hh:(Lib.cut r.data.toList [46]).1=h.data.toList)(ht:(Lib.cut r.data.toList [46]).2.1=t.data.toList)(hm:(Lib.cut r.data.toList [46]).2.2=m) :
    (m=true→SegS s (3+1) t p0 p1 p2 h p4)∧(m=false→SegR s (3+1) true p0 p1 p2 h p4):=by
 obtain⟨T,h1,h2,h3⟩:=hs;constructor
 · intro e;subst e;have:=cut_yes hm;rw[hh,ht]at this;refine⟨T ++ [h.data.toList],by simp[h1],by rw[h2,this];simp,?_⟩;rw[List.map_append,h3];rfl
 · intro e;subst e;obtain⟨g1,g2⟩:=cut_no hm;rw[g1,← g2,hh]at h2;have hl:(cuts s.data.toList).length=3+1:=(by rw[h2,List.length_append,h1];rfl);refine⟨by rw[hl];rfl,fun _=>⟨hl,by omega,?_⟩⟩;rw[h2,List.map_append,h3];rfl
theorem segS_go4{s r p0 p1 p2 p3 p4 h t:ByteArray}{m:Bool}(hs:SegS s 4 r p0 p1 p2 p3 p4)(hh:(Lib.cut r.data.toList [46]).1=h.data.toList)(ht:(Lib.cut r.data.toList [46]).2.1=t.data.toList)(hm:(Lib.cut r.data.toList [46]).2.2=m) :
    (m=true→SegS s (4+1) t p0 p1 p2 p3 h)∧(m=false→SegR s (4+1) true p0 p1 p2 p3 h):=by
 obtain⟨T,h1,h2,h3⟩:=hs;constructor
 · intro e;subst e;have:=cut_yes hm;rw[hh,ht]at this;refine⟨T ++ [h.data.toList],by simp[h1],by rw[h2,this];simp,?_⟩;rw[List.map_append,h3];rfl
 · intro e;subst e;obtain⟨g1,g2⟩:=cut_no hm;rw[g1,← g2,hh]at h2;have hl:(cuts s.data.toList).length=4+1:=(by rw[h2,List.length_append,h1];rfl);refine⟨by rw[hl];rfl,fun _=>⟨hl,by omega,?_⟩⟩;rw[h2,List.map_append,h3];rfl
theorem seg_all{s:ByteArray}{n:Nat}{p0 p1 p2 p3 p4:ByteArray}(h:SegR s n true p0 p1 p2 p3 p4):(decide ((cuts s.data.toList).length≤5) && (cuts s.data.toList).all segL)=([p0,p1,p2,p3,p4].take n).all seg:=by obtain⟨h1,h2⟩:=h;obtain⟨_,_,h3⟩:=h2 rfl;rw[← h1,Bool.true_and,← h3,List.all_map];rfl
theorem cuts_len:∀ (l:List UInt8),∀ x∈cuts l,x.length≤l.length
 | [],x,hx=>by simp[cuts]at hx;subst hx;simp
 | c :: l,x,hx=>by
  have ih:=cuts_len l;obtain⟨a,r,e⟩:∃ a r,cuts l=a :: r:=by
   cases hl:cuts l with
   | nil=>exact absurd hl (cuts_ne l)
   | cons a r=>exact⟨a,r,rfl⟩
  rw[cuts]at hx;rw[e]at hx ih;split at hx
  · rcases List.mem_cons.1 hx with rfl | h
    · simp
    · have:=ih x h;simp only[List.length_cons];omega
  · rcases List.mem_cons.1 hx with rfl | h
    · have:=ih a (by simp);simp only[List.length_cons,List.headD_cons];omega
    · have:=ih x (List.mem_cons_of_mem _ h);simp only[List.length_cons];omega
theorem all_take{l:List ByteArray}{n k:Nat}{p:ByteArray}(hp:l[k]?=some p)(hk:k<n)(hb:seg p=false):(l.take n).all seg=false:=by rw[List.all_eq_false];exact⟨p,List.mem_of_getElem? (i:=k) (by rw[List.getElem?_take_of_lt hk];exact hp),by rw[hb];simp⟩
theorem all_next{l:List ByteArray}{k:Nat}{p:ByteArray}(hp:l[k]?=some p)(h:(l.take k).all seg=true)(hb:seg p=true):(l.take (k+1)).all seg=true:=by rw[List.take_add_one,hp,List.all_append,h];simp[hb]
end It

def SegPost (s:ByteArray)(e:Ending):Prop :=
 ∃ (p0 p1 p2 p3 p4:ByteArray) (n:Nat) (ok:Bool),e=.returned (.tuple #[.agg #[.string p0,.string p1,.string p2,.string p3,.string p4],.int .i64 n,.bool ok])∧It.SegR s n ok p0 p1 p2 p3 p4
theorem gm_new{w:World}(h:Gm w)(Z1 Z2:Obj)(m:Nat):Gm (((w.alloc Z1).alloc Z2).drewN m):=h.ext ((((Ext.refl w).alloc _).alloc _).drewN _)
theorem seg_ext(w:World)(Z1 Z2:Obj)(m:Nat):Ext w (((w.alloc Z1).alloc Z2).drewN m):=(((Ext.refl w).alloc _).alloc _).drewN _
theorem Ext.sc0{w X:World}(h:Ext w X){i:Nat}{v:Value}:Ext w (X.setCell ⟨w.heap.size,i,none⟩ v):=h.setCell (Nat.le_refl _) _
theorem Ext.sc1{w X:World}(h:Ext w X){i:Nat}{v:Value}:Ext w (X.setCell ⟨w.heap.size+1,i,none⟩ v):=h.setCell (Nat.le_succ _) _
theorem seg_put(w:World)(Z:Obj)(c:Array Value)(i:Nat)(v:Value)(m:Nat) :
    ((((w.alloc Z).alloc (.cells c 151)).drewN m).setCell ⟨w.heap.size+1,i,none⟩ v)=((w.alloc Z).alloc (.cells (c.setIfInBounds i v) 151)).drewN m:=by
 have h:=World.setCell_alloc_at (w:=w.alloc Z) c 151 (w.heap.size+1) i v (by simp);rw[← h];rfl
theorem segments_any(s:ByteArray)(w:World)(hs2:s.size<4294967281)(hg:Gm w) :
    Calls Tryz.prog 118 #[.string s] w fun e w'=>SegPost s e∧Ext w w':=by
 have HG:=Hi hg;clear hg;go_enter Tryz.func118,Tryz.ntmps118
 go_wp2;go_loopw [10, 0] (fun n code wr => ∃ (k : Nat) (r p0 p1 p2 p3 p4 : ByteArray) (m : Nat), k ≤ 5 ∧ n = .int .i64 k ∧ code = .string r ∧ r.size < 4294967281 ∧ Hid (It.SegS s k r p0 p1 p2 p3 p4) ∧
     wr=((w.alloc (.cells #[.string ⟨#[]⟩,.string ⟨#[]⟩,.string ⟨#[]⟩,.string ⟨#[]⟩,.string ⟨#[]⟩] 151)).alloc (.cells #[.string p0,.string p1,.string p2,.string p3,.string p4] 151)).drewN m) (fun n _ _=>5-(intOf n).toNat)
 case atStart=>exact⟨0,s,⟨#[]⟩,⟨#[]⟩,⟨#[]⟩,⟨#[]⟩,⟨#[]⟩,0,by omega,rfl,rfl,hs2,Hi (It.segS_start _ _ _ _ _ _),rfl⟩
 case round =>
  obtain⟨k,r,p0,p1,p2,p3,p4,m,hk,rfl,rfl,hr,HS,rfl⟩:=hrel;have hG:=gm_new HG.out (.cells #[.string ⟨#[]⟩,.string ⟨#[]⟩,.string ⟨#[]⟩,.string ⟨#[]⟩,.string ⟨#[]⟩] 151) (.cells #[.string p0,.string p1,.string p2,.string p3,.string p4] 151) m;have HGM:=Hi hG;clear hG;obtain⟨h,hh⟩:∃ h:ByteArray,(Lib.cut r.data.toList [46]).1=h.data.toList:=⟨It.ofL _,rfl⟩;obtain⟨t,ht⟩:∃ t:ByteArray,(Lib.cut r.data.toList [46]).2.1=t.data.toList:=⟨It.ofL _,rfl⟩;obtain⟨c,hc⟩:∃ c:Bool,(Lib.cut r.data.toList [46]).2.2=c:=⟨_,rfl⟩;have HH:=Hi hh;have HT:=Hi ht;have HC:=Hi hc;have htl:t.size≤r.size:=by
   have h1:t.data.toList.length≤r.data.toList.length:=by
    rw[← ht];unfold Lib.cut;split
    · simp
    · simp
   exact h1
  clear hh ht hc;have hcut:∀ w,Gm w→Calls Tryz.prog 142 #[.string r,.string ⟨#[46]⟩] w fun e w'=>e=.returned (.tuple #[.string h,.string t,.bool c])∧∃ n,w'=w.drewN n:=fun w hg=>by refine(cut_any r ⟨#[46]⟩ w hr hg).mono ?_;rintro e w' ⟨rfl,hn⟩;refine⟨?_,hn⟩;rw[show(⟨#[46]⟩:ByteArray).data.toList=[46]from rfl,HH.out,HT.out,HC.out]
  have HCUT:=Hi hcut;clear hcut;rcases(show k=0∨k=1∨k=2∨k=3∨k=4∨k=5 by omega)with rfl | rfl | rfl | rfl | rfl | rfl
  · have HN:=Hi (It.segS_go0 HS.out HH.out HT.out HC.out);cases c with
    | true =>
     have HN2:Hid (It.SegS s (0+1) t h p1 p2 p3 p4):=Hi (HN.out.1 rfl);clear HN;go_wp2_with (go_at_call 142;refine(HCUT.out _ HGM.out).mono ?_;rintro e w' ⟨rfl,nn,rfl⟩)
     go_roundw;case rel=>exact⟨0+1,t,h,p1,p2,p3,p4,_,by omega,by go_num,rfl,by omega,HN2,seg_put _ _ _ _ _ _⟩
     case measure=>simp[intOf]
    | false =>
     have HN2:It.SegR s (0+1) true h p1 p2 p3 p4:=HN.out.2 rfl;have HN3:=Hi HN2;clear HN HN2;go_wp2_with (go_at_call 142;refine(HCUT.out _ HGM.out).mono ?_;rintro e w' ⟨rfl,nn,rfl⟩)
     refine bodyPost_ret (v:=.tuple #[.agg #[.string h,.string p1,.string p2,.string p3,.string p4],.int .i64 (0+1:Nat),.bool true]) (by simp[results,Tryz.results118,go_sem]) rfl ⟨⟨h,p1,p2,p3,p4,0+1,true,rfl,HN3.out⟩,?_⟩;with_reducible exact Ext.sc0 (Ext.sc0 (Ext.sc0 (Ext.sc0 (Ext.sc0 (Ext.sc1 (seg_ext _ _ _ _))))))
  · have HN:=Hi (It.segS_go1 HS.out HH.out HT.out HC.out);cases c with
    | true =>
     have HN2:Hid (It.SegS s (1+1) t p0 h p2 p3 p4):=Hi (HN.out.1 rfl);clear HN;go_wp2_with (go_at_call 142;refine(HCUT.out _ HGM.out).mono ?_;rintro e w' ⟨rfl,nn,rfl⟩)
     go_roundw;case rel=>exact⟨1+1,t,p0,h,p2,p3,p4,_,by omega,by go_num,rfl,by omega,HN2,seg_put _ _ _ _ _ _⟩
     case measure=>simp[intOf]
    | false =>
     have HN2:It.SegR s (1+1) true p0 h p2 p3 p4:=HN.out.2 rfl;have HN3:=Hi HN2;clear HN HN2;go_wp2_with (go_at_call 142;refine(HCUT.out _ HGM.out).mono ?_;rintro e w' ⟨rfl,nn,rfl⟩)
     refine bodyPost_ret (v:=.tuple #[.agg #[.string p0,.string h,.string p2,.string p3,.string p4],.int .i64 (1+1:Nat),.bool true]) (by simp[results,Tryz.results118,go_sem]) rfl ⟨⟨p0,h,p2,p3,p4,1+1,true,rfl,HN3.out⟩,?_⟩;with_reducible exact Ext.sc0 (Ext.sc0 (Ext.sc0 (Ext.sc0 (Ext.sc0 (Ext.sc1 (seg_ext _ _ _ _))))))
  · have HN:=Hi (It.segS_go2 HS.out HH.out HT.out HC.out);cases c with
    | true =>
     have HN2:Hid (It.SegS s (2+1) t p0 p1 h p3 p4):=Hi (HN.out.1 rfl);clear HN;go_wp2_with (go_at_call 142;refine(HCUT.out _ HGM.out).mono ?_;rintro e w' ⟨rfl,nn,rfl⟩)
     go_roundw;case rel=>exact⟨2+1,t,p0,p1,h,p3,p4,_,by omega,by go_num,rfl,by omega,HN2,seg_put _ _ _ _ _ _⟩
     case measure=>simp[intOf]
    | false =>
     have HN2:It.SegR s (2+1) true p0 p1 h p3 p4:=HN.out.2 rfl;have HN3:=Hi HN2;clear HN HN2;go_wp2_with (go_at_call 142;refine(HCUT.out _ HGM.out).mono ?_;rintro e w' ⟨rfl,nn,rfl⟩)
     refine bodyPost_ret (v:=.tuple #[.agg #[.string p0,.string p1,.string h,.string p3,.string p4],.int .i64 (2+1:Nat),.bool true]) (by simp[results,Tryz.results118,go_sem]) rfl ⟨⟨p0,p1,h,p3,p4,2+1,true,rfl,HN3.out⟩,?_⟩;with_reducible exact Ext.sc0 (Ext.sc0 (Ext.sc0 (Ext.sc0 (Ext.sc0 (Ext.sc1 (seg_ext _ _ _ _))))))
  · have HN:=Hi (It.segS_go3 HS.out HH.out HT.out HC.out);cases c with
    | true =>
     have HN2:Hid (It.SegS s (3+1) t p0 p1 p2 h p4):=Hi (HN.out.1 rfl);clear HN;go_wp2_with (go_at_call 142;refine(HCUT.out _ HGM.out).mono ?_;rintro e w' ⟨rfl,nn,rfl⟩)
     go_roundw;case rel=>exact⟨3+1,t,p0,p1,p2,h,p4,_,by omega,by go_num,rfl,by omega,HN2,seg_put _ _ _ _ _ _⟩
     case measure=>simp[intOf]
    | false =>
     have HN2:It.SegR s (3+1) true p0 p1 p2 h p4:=HN.out.2 rfl;have HN3:=Hi HN2;clear HN HN2;go_wp2_with (go_at_call 142;refine(HCUT.out _ HGM.out).mono ?_;rintro e w' ⟨rfl,nn,rfl⟩)
     refine bodyPost_ret (v:=.tuple #[.agg #[.string p0,.string p1,.string p2,.string h,.string p4],.int .i64 (3+1:Nat),.bool true]) (by simp[results,Tryz.results118,go_sem]) rfl ⟨⟨p0,p1,p2,h,p4,3+1,true,rfl,HN3.out⟩,?_⟩;with_reducible exact Ext.sc0 (Ext.sc0 (Ext.sc0 (Ext.sc0 (Ext.sc0 (Ext.sc1 (seg_ext _ _ _ _))))))
  · have HN:=Hi (It.segS_go4 HS.out HH.out HT.out HC.out);cases c with
    | true =>
     have HN2:Hid (It.SegS s (4+1) t p0 p1 p2 p3 h):=Hi (HN.out.1 rfl);clear HN;go_wp2_with (go_at_call 142;refine(HCUT.out _ HGM.out).mono ?_;rintro e w' ⟨rfl,nn,rfl⟩)
     go_roundw;case rel=>exact⟨4+1,t,p0,p1,p2,p3,h,_,by omega,by go_num,rfl,by omega,HN2,seg_put _ _ _ _ _ _⟩
     case measure=>simp[intOf]
    | false =>
     have HN2:It.SegR s (4+1) true p0 p1 p2 p3 h:=HN.out.2 rfl;have HN3:=Hi HN2;clear HN HN2;go_wp2_with (go_at_call 142;refine(HCUT.out _ HGM.out).mono ?_;rintro e w' ⟨rfl,nn,rfl⟩)
     refine bodyPost_ret (v:=.tuple #[.agg #[.string p0,.string p1,.string p2,.string p3,.string h],.int .i64 (4+1:Nat),.bool true]) (by simp[results,Tryz.results118,go_sem]) rfl ⟨⟨p0,p1,p2,p3,h,4+1,true,rfl,HN3.out⟩,?_⟩;with_reducible exact Ext.sc0 (Ext.sc0 (Ext.sc0 (Ext.sc0 (Ext.sc0 (Ext.sc1 (seg_ext _ _ _ _))))))
  · have HF:=Hi (It.segS_full HS.out);go_wp2;refine bodyPost_ret (v:=.tuple #[.agg #[.string p0,.string p1,.string p2,.string p3,.string p4],.int .i64 (0:Nat),.bool false]) (by simp[results,Tryz.results118,go_sem]) rfl ⟨⟨p0,p1,p2,p3,p4,0,false,rfl,HF.out⟩,?_⟩;with_reducible exact Ext.sc0 (Ext.sc0 (Ext.sc0 (Ext.sc0 (Ext.sc0 (seg_ext _ _ _ _)))))

theorem cvalid_any(s:ByteArray)(w:World)(hs:s.size≤9223372036854775807)(hg:Gm w) :
    Calls Tryz.prog 89 #[.string s] w fun e w'=>e=.returned (.bool (It.codeC s))∧Ext w w':=by
 have HG:=Hi hg;clear hg;by_cases hbig:24<s.size
 · have HF:Hid (It.codeC s=false):=Hi (by unfold It.codeC;rw[decide_eq_false (by omega)];rfl);have hb':(24:Int)<(s.size:Int):=(by omega);go_enter Tryz.func89,Tryz.ntmps89
   go_wp2;go_ret;exact⟨ret_bool HF.out.symm,Ext.refl _⟩
 · have hb':¬ (24:Int)<(s.size:Int):=(by omega);have HV:Hid (It.codeC s=(decide ((It.cuts s.data.toList).length≤5) && (It.cuts s.data.toList).all It.segL)):=Hi (by unfold It.codeC;rw[decide_eq_true (by omega),Bool.true_and]);go_enter Tryz.func89,Tryz.ntmps89
   go_wp2_with fail
   refine(segments_any s w (by omega) HG.out).mono ?_;rintro e w1 ⟨⟨p0,p1,p2,p3,p4,n,ok,rfl,hr⟩,hb1⟩;obtain⟨hc1,hf1⟩:=hb1.cells;have x1:=Hi hb1;clear hb1;cases ok with
   | false=>have HF:Hid (It.codeC s=false):=Hi (by rw[HV.out,← hr.1];rfl);clear hr;go_wp2;go_ret;exact⟨ret_bool HF.out.symm,x1.out.alloc _⟩
   | true =>
    have HF:Hid (It.codeC s=([p0,p1,p2,p3,p4].take n).all It.seg):=Hi (by rw[HV.out];exact It.seg_all hr);have hn5:n≤5:=(hr.2 rfl).2.1;have HLEN:Hid (∀ p∈[p0,p1,p2,p3,p4].take n,p.size≤s.size):=Hi fun p hp=>by rw[← (hr.2 rfl).2.2]at hp;obtain⟨x,hx,rfl⟩:=List.mem_map.1 hp;exact It.cuts_len _ x hx
    clear hr;have n0:(0:Int)≤(n:Int):=(by omega);have n1:(n:Int)≤5:=(by omega);go_wp2;have hlist:∀ k,k<5→∃ p,[p0,p1,p2,p3,p4][k]?=some p∧(w1.alloc (.cells #[.string p0,.string p1,.string p2,.string p3,.string p4] 151)).cell? ⟨w1.heap.size,k,none⟩=some (.string p):=fun k hk=>by
     rcases(show k=0∨k=1∨k=2∨k=3∨k=4 by omega)with rfl | rfl | rfl | rfl | rfl
     · exact⟨p0,rfl,by rw[World.cell?_alloc_new];rfl⟩
     · exact⟨p1,rfl,by rw[World.cell?_alloc_new];rfl⟩
     · exact⟨p2,rfl,by rw[World.cell?_alloc_new];rfl⟩
     · exact⟨p3,rfl,by rw[World.cell?_alloc_new];rfl⟩
     · exact⟨p4,rfl,by rw[World.cell?_alloc_new];rfl⟩
    have HL:=Hi hlist;clear hlist;obtain⟨W0,hW0⟩:∃ W0,W0=w1.alloc (.cells #[.string p0,.string p1,.string p2,.string p3,.string p4] 151):=⟨_,rfl⟩;rw[← hW0]at HL ⊢;have x2:Hid (Ext w W0):=Hi (by rw[hW0];exact x1.out.alloc _);clear hW0 hc1 hf1
    go_loop [22] (fun i=>∃ k:Nat,k≤n∧i=.int .i64 k∧Hid (([p0,p1,p2,p3,p4].take k).all It.seg=true)) (fun i=>n-(intOf i).toNat)
    case atStart=>exact⟨0,by omega,rfl,Hi rfl⟩
    case round =>
     obtain⟨k,hk,rfl,HA⟩:=hrel;by_cases hlt:k<n
     · obtain⟨p,hp,hc⟩:=HL.out k (by omega);have HP:=Hi hp;clear hp;obtain⟨q,hq⟩:∃ q,It.seg p=q:=⟨_,rfl⟩;have HQ:=Hi hq;clear hq;have ki0:(0:Int)≤(k:Int):=(by omega);have ki1:(k:Int)<(n:Int):=(by omega);have hps:p.size≤9223372036854775807:=Nat.le_trans (HLEN.out p (List.mem_of_getElem? (i:=k) (by rw[List.getElem?_take_of_lt hlt];exact HP.out))) hs;cases q with
       | false =>
        have HF2:Hid (It.codeC s=false):=Hi (by rw[HF.out];exact It.all_take HP.out hlt HQ.out);go_wp2_with (go_at_call 119;refine(validSegment_any p _ hps).mono ?_;rintro e w' ⟨rfl,rfl⟩;rw[HQ.out])
        go_ret;exact⟨ret_bool HF2.out.symm,x2.out⟩
       | true =>
        have HN:=Hi (It.all_next HP.out HA.out HQ.out);go_wp2_with (go_at_call 119;refine(validSegment_any p _ hps).mono ?_;rintro e w' ⟨rfl,rfl⟩;rw[HQ.out])
        go_round
        case rel=>exact⟨k+1,by omega,by go_num,HN⟩
        case measure=>simp[intOf];omega
     · obtain rfl:k=n:=by omega
       have HF2:Hid (It.codeC s=true):=Hi (by rw[HF.out];exact HA.out);go_wp2;go_ret;exact⟨ret_bool HF2.out.symm,x2.out⟩

end Go.Proofs.YtfnmgcblhebdbaaGreatDoor
namespace Go.Proofs.YtfnmgcblhebdbaaGreatDoor
open Go.RowKit Go.Shelf

theorem equalI_any(X:Option Addr)(xc:Nat)(Y:Option Addr)(yc:Nat)(xs ys:List Int)(w:World)(ha:SlI w X xs)(hb:SlI w Y ys)(l1:xs.length≤9223372036854775807)(l2:ys.length≤9223372036854775807) :
    Calls Tryz.prog 47 #[.slice X xs.length xc,.slice Y ys.length yc] w fun e w'=>e=.returned (.bool (It.eqI xs ys))∧∃ q,w'=w.drewN q:=by
 by_cases hn:xs.length=ys.length
 · rcases Nat.eq_zero_or_pos xs.length with h0 | h0
   · obtain rfl:=List.eq_nil_of_length_eq_zero h0;obtain rfl:=List.eq_nil_of_length_eq_zero (l:=ys) (by omega);refine(Any.slices_Equal_int_empty Tryz.lays111 X Y xc 0 yc w (by omega)).mono ?_;rintro e w' ⟨rfl,rfl⟩;exact⟨rfl,0,rfl⟩
   · obtain⟨b1,o1,x0,rfl,_⟩:=ha.at_ h0;obtain⟨b2,o2,y0,rfl,_⟩:=hb.at_ (i:=0) (by omega);refine(Any.slices_Equal_int Tryz.lays111 b1 o1 xs.length xc b2 o2 ys.length yc xs ys w (Nat.le_refl _) (Nat.le_refl _) l1 l2 (fun j hj=>?_) (fun j hj=>?_)).mono ?_
     · obtain⟨b,o,x,e,_,hx,hc⟩:=ha.at_ hj;cases e;rw[hc,List.getD_eq_getElem?_getD,hx];rfl
     · obtain⟨b,o,x,e,_,hx,hc⟩:=hb.at_ hj;cases e;rw[hc,List.getD_eq_getElem?_getD,hx];rfl
     · rintro e w' ⟨rfl,hq⟩;rw[List.take_length,List.take_length];exact⟨ret_bool (by unfold It.eqI;rw[Bool.eq_iff_iff];simp),hq⟩
 · refine(Any.slices_Equal_int_lens Tryz.lays111 X Y xs.length xc ys.length yc w hn).mono ?_;rintro e w' ⟨rfl,rfl⟩;exact⟨ret_bool (by unfold It.eqI;rw[decide_eq_false (fun e=>hn (by rw[e]))]),0,rfl⟩
theorem equalS_any(X:Option Addr)(xc:Nat)(Y:Option Addr)(yc:Nat)(xs ys:List ByteArray)(w:World)(ha:SlS w X xs)(hb:SlS w Y ys)(l1:xs.length≤9223372036854775807)(l2:ys.length≤9223372036854775807) :
    Calls Tryz.prog 138 #[.slice X xs.length xc,.slice Y ys.length yc] w fun e w'=>e=.returned (.bool (It.eqS xs ys))∧∃ q,w'=w.drewN q:=by
 by_cases hn:xs.length=ys.length
 · rcases Nat.eq_zero_or_pos xs.length with h0 | h0
   · obtain rfl:=List.eq_nil_of_length_eq_zero h0;obtain rfl:=List.eq_nil_of_length_eq_zero (l:=ys) (by omega);refine(Any.slices_Equal_string_empty Tryz.lays193 X Y xc 0 yc w (by omega)).mono ?_;rintro e w' ⟨rfl,rfl⟩;exact⟨rfl,0,rfl⟩
   · obtain⟨b1,o1,rfl,_⟩:=ha.at_ h0;obtain⟨b2,o2,rfl,_⟩:=hb.at_ (i:=0) (by omega);refine(Any.slices_Equal_string Tryz.lays193 b1 o1 xs.length xc b2 o2 ys.length yc xs ys w (Nat.le_refl _) (Nat.le_refl _) l1 l2 (fun j hj=>?_) (fun j hj=>?_)).mono ?_
     · obtain⟨b,o,e,_,hc⟩:=ha.at_ hj;cases e;rw[hc,List.getD_eq_getElem?_getD,List.getElem?_eq_getElem hj];rfl
     · obtain⟨b,o,e,_,hc⟩:=hb.at_ hj;cases e;rw[hc,List.getD_eq_getElem?_getD,List.getElem?_eq_getElem hj];rfl
     · rintro e w' ⟨rfl,hq⟩;rw[List.take_length,List.take_length];exact⟨ret_bool (by unfold It.eqS;rfl),hq⟩
 · refine(Any.slices_Equal_string_lens Tryz.lays193 X Y xs.length xc ys.length yc w hn).mono ?_;rintro e w' ⟨rfl,rfl⟩;exact⟨ret_bool (by unfold It.eqS;rw[decide_eq_false (fun e=>hn (by rw[e]))]),0,rfl⟩
end Go.Proofs.YtfnmgcblhebdbaaGreatDoor
