/- Lists of items: how they lie; the rules of a list, where an item is, in the package and in the reference: contracts. Conditions: those of each theorem. -/
import Derived.Test.YtnlenappjjlbjaaGreatDoorQ30
import Derived.Test.YtnlenappjjlbjaaGreatDoorQ23
import Derived.Test.YtnlenappjjlbjaaGreatDoorQ12
namespace Go.Proofs.YtnlenappjjlbjaaGreatDoor
open Go.ChangeShapes Go.WideShapes Go.ChangeAt Go.RowKit
namespace Rt
abbrev ItL:=It.Item×It.Loc
def cl (x:ItL):List Value:=It.cells x.1 x.2
def SlIt (w:World) (A:Option Addr) (xs:List ItL):Prop:=Sl w 17 A (xs.map cl)∧∀ x∈xs,It.In w x.1 x.2
theorem SlIt.ext {w w':World} {A:Option Addr} {xs:List ItL} (h:SlIt w A xs) (he:Ext w w'):SlIt w' A xs:=⟨h.1.ext he,fun x hx=>(h.2 x hx).ext he⟩
theorem SlIt.at_ {w : World} {A : Option Addr} {xs : List ItL} (h : SlIt w A xs) {i : Nat} {x : ItL} (hi : xs[i]? = some x) :
    ∃ b off,A=some ⟨b,off,none⟩∧b<w.heap.size∧w.rangeAt b (off+i*17) (cl x)∧It.In w x.1 x.2:=by
 obtain ⟨b,off,hA,hb,hc⟩:=h.1.range (i:=i) (cs:=cl x) (by simp [hi])
 exact ⟨b,off,hA,hb,hc,h.2 x (List.mem_of_getElem? hi)⟩
theorem SlIt.id {w:World} {b o:Nat} {x:ItL} (h:w.rangeAt b o (cl x)):w.cell? ⟨b,o,none⟩=some (.int .i64 x.1.id):=h 0 _ rfl
def its (xs:List ItL):List It.Item:=xs.map (·.1)
theorem its_len (xs:List ItL):(its xs).length=xs.length:=List.length_map _
theorem its_at {xs:List ItL} {i:Nat} {x:ItL} (h:xs[i]?=some x):(its xs)[i]?=some x.1:=by unfold its;rw [List.getElem?_map,h];rfl
theorem ordI_no {l:List It.Item} {k:Nat} {x y:It.Item} (hx:l[k+1]?=some x) (hy:l[k]?=some y) (h:x.id≤y.id):Rs.ordI l=false :=
 It.allN_no (k:=k+1) (List.getElem?_eq_some_iff.1 hx).1 (by unfold Rs.ordA;rw [Nat.add_sub_cancel,Rs.idAt_at hx,Rs.idAt_at hy];simp;omega)
theorem ordI_next {l:List It.Item} {k:Nat} {x y:It.Item} (hx:l[k+1]?=some x) (hy:l[k]?=some y) (h:y.id<x.id) (ha:It.allN (Rs.ordA l) (k+1)=true):It.allN (Rs.ordA l) (k+1+1)=true :=
 It.allN_next ha (by unfold Rs.ordA;rw [Nat.add_sub_cancel,Rs.idAt_at hx,Rs.idAt_at hy];simp;omega)
theorem chkI_many {l:List It.Item} (h:60<l.length):Rs.chkI l=5:=by unfold Rs.chkI;rw [if_pos h]
theorem chkI_bad {l:List It.Item} (h:l.length≤60) (ho:Rs.ordI l=false):Rs.chkI l=23:=by unfold Rs.chkI;rw [if_neg (by omega),if_pos ho]
theorem chkI_rest {l:List It.Item} (h:l.length≤60) (ho:Rs.ordI l=true):Rs.chkI l=Rs.fstN (Rs.vldAt l) l.length:=by unfold Rs.chkI;rw [if_neg (by omega),if_neg (by rw [ho];simp)]
theorem infoItem {CS:Array Value} (h:CS.size=17):(Tryz.prog.info? 45).map (·.size)=some CS.size:=by rw [h];kernel_rfl
end Rt
set_option maxRecDepth 100000 in
set_option maxHeartbeats 6400000 in
theorem ritems_any (A : Option Addr) (c : Nat) (xs : List Rt.ItL) {n : Nat} (hn : xs.length = n) {v : Int} (hv : Rs.chkI (Rt.its xs) = v) (w : World) (h : Rt.SlIt w A xs) (hl : n ≤ 9223372036854775807) :
    Calls Tryz.prog 36 #[.slice A n c] w fun e w'=>e=.returned (.int .i64 v)∧Ext w w':=by
 have H:=Hi h
 have HV:=Hi hv
 have HN:=Hi hn
 have HL:Hid ((Rt.its xs).length=n):=Hi ((Rt.its_len xs).trans hn)
 clear h hv hn
 by_cases h60:60<n
 · have HF:Hid (v=5):=Hi (by rw [← HV.out];exact Rt.chkI_many (by rw [HL.out];exact h60))
   go_enter Tryz.func36,Tryz.ntmps36
   go_wp2
   go_ret
   exact ⟨ret_int HF.out.symm,Ext.refl _⟩
 go_enter Tryz.func36,Tryz.ntmps36
 go_wp2
 go_loopw [3] (fun i wr=>∃ k:Nat,(k+1≤n∨k=0)∧i=.int .i64 (k+1)∧Hid (It.allN (Rs.ordA (Rt.its xs)) (k+1)=true)∧Hid (Ext w wr)) (fun i _=>n+1-(intOf i).toNat)
 case atStart=>exact ⟨0,by omega,rfl,Hi rfl,Hi (Ext.refl _)⟩
 case round =>
  obtain ⟨k,hk,rfl,HA,HE⟩:=hrel
  by_cases hlt:k+1<n
  · obtain ⟨x,hx⟩:∃ x,xs[k+1]?=some x:=⟨xs[k+1]'(by rw [HN.out];exact hlt),List.getElem?_eq_getElem _⟩
    obtain ⟨y,hy⟩:∃ y,xs[k]?=some y:=⟨xs[k]'(by rw [HN.out];omega),List.getElem?_eq_getElem _⟩
    obtain ⟨b,off,rfl,hb,hc,-⟩:=(H.out.ext HE.out).at_ hx
    obtain ⟨b',off',e',hb',hc',-⟩:=(H.out.ext HE.out).at_ hy
    obtain ⟨rfl,rfl⟩:b=b'∧off=off':=by cases e';exact ⟨rfl,rfl⟩
    have c0:=Rt.SlIt.id hc
    have c1:=Rt.SlIt.id hc'
    have HX:=Hi (Rt.its_at hx)
    have HY:=Hi (Rt.its_at hy)
    have ki0:(0:Int)≤(k:Int):=by omega
    have ki1:(k:Int)+1<(n:Int):=by omega
    clear hx hy e' hc hc'
    by_cases hxy:x.1.id≤y.1.id
    · have HF:Hid (v=23):=Hi (by rw [← HV.out];exact Rt.chkI_bad (by rw [HL.out];omega) (Rt.ordI_no HX.out HY.out hxy))
      go_wp2_with fail
      go_quiet (fail)
      go_wp2
      go_ret
      exact ⟨ret_int HF.out.symm,HE.out.drewN _⟩
    · have hxy':y.1.id<x.1.id:=by omega
      have HF:=Hi (Rt.ordI_next HX.out HY.out hxy' HA.out)
      clear hxy
      go_wp2_with fail
      go_quiet (fail)
      go_wp2
      go_roundw
      case rel=>exact ⟨k+1,by omega,by go_num,HF,Hi (HE.out.drewN _)⟩
      case measure=>simp [intOf];omega
  · have HF:Hid (v=Rs.fstN (Rs.vldAt (Rt.its xs)) n):=Hi (by
      rw [← HV.out,Rt.chkI_rest (by rw [HL.out];omega) ?_,HL.out]
      unfold Rs.ordI
      rw [HL.out]
      rcases Nat.eq_zero_or_pos n with h0 | h0
      · rw [h0];rfl
      · rw [show n=k+1 by omega];exact HA.out)
    clear hk
    have hlt':¬ (k:Int)+1<(n:Int):=by omega
    go_wp2
    go_loopw [4] (fun i wr=>∃ k:Nat,k≤n∧i=.int .i64 k∧Hid (Rs.fstN (Rs.vldAt (Rt.its xs)) k=0)∧Hid (Ext w wr)) (fun i _=>n-(intOf i).toNat)
    case atStart=>exact ⟨0,by omega,rfl,Hi rfl,HE⟩
    case round =>
     clear HE HA hlt hlt'
     obtain ⟨k,hk,rfl,HA,HE⟩:=hrel
     by_cases hlt:k<n
     · obtain ⟨x,hx⟩:∃ x,xs[k]?=some x:=⟨xs[k]'(by rw [HN.out];exact hlt),List.getElem?_eq_getElem _⟩
       obtain ⟨b,off,rfl,hb,hc,hin⟩:=(H.out.ext HE.out).at_ hx
       obtain ⟨CA,hca,hna,h1a,hka⟩:=rs_packed x.1 x.2
       have HC:Hid (wr.rangeAt b (off+k*17) CA.toList):=Hi (by rw [← hka];exact hc)
       have HX:=Hi (Rt.its_at hx)
       have HI:=Hi hin
       have IA:=Hi (Rt.infoItem hna)
       have NA:=Hi hna
       have OA:=Hi h1a
       have ki0:(0:Int)≤(k:Int):=by omega
       have ki1:(k:Int)<(n:Int):=by omega
       obtain ⟨q,hq⟩:∃ q,It.vld x.1=q:=⟨_,rfl⟩
       have HQ:Hid (Rs.vldAt (Rt.its xs) k=q):=Hi (by rw [Rs.vldAt_at HX.out];exact hq)
       have HV2:=Hi (rvalid_any x.1 x.2)
       rw [hq,hca] at HV2
       clear hx hc hin hca hka hna h1a hq
       by_cases hq0:q=0
       · subst hq0
         go_wp2_with (with_reducible refine wpList_load_arr rfl 45 (.tmp 35) rfl b (off+k*17) (by with_unfolding_all rfl) CA _ HC.out Tryz.underlying45 rfl IA.out ?_)
         have X1:=HE.out
         with_reducible refine (HV2.out _ HI.out).mono ?_
         rintro e w3 ⟨rfl,hb3⟩
         have HE3:=Hi (X1.trans hb3)
         clear hb3 X1
         have HF2:Hid (Rs.fstN (Rs.vldAt (Rt.its xs)) (k+1)=0):=Hi (Rs.fstN_next HA.out HQ.out)
         go_wp2
         go_roundw
         case rel=>exact ⟨k+1,by omega,by go_num,HF2,HE3⟩
         case measure=>simp [intOf];omega
       · have t0:(q != 0)=true:=by rw [bne_iff_ne];exact hq0
         have HF2:Hid (v=q):=Hi (by rw [HF.out];exact Rs.fstN_hit hlt HA.out HQ.out hq0)
         clear hq0
         go_wp2_with (with_reducible refine wpList_load_arr rfl 45 (.tmp 35) rfl b (off+k*17) (by with_unfolding_all rfl) CA _ HC.out Tryz.underlying45 rfl IA.out ?_)
         have X1:=HE.out
         with_reducible refine (HV2.out _ HI.out).mono ?_
         rintro e w3 ⟨rfl,hb3⟩
         have HE3:=Hi (X1.trans hb3)
         clear hb3 X1
         go_wp2
         go_ret
         exact ⟨ret_int HF2.out.symm,HE3.out⟩
     · obtain rfl:k=n:=by omega
       have HF2:Hid (v=0):=Hi (by rw [HF.out];exact HA.out)
       go_wp2
       go_ret
       exact ⟨ret_int HF2.out.symm,HE.out⟩
namespace Rt
end Rt
namespace Rt
end Rt
namespace Rt
theorem row_step {α:Type} {l:List α} {z v:α} {m:Nat}:(l ++ List.replicate (m+1) z).set l.length v=(l ++ [v]) ++ List.replicate m z:=by
 rw [List.replicate_succ,List.set_append_right _ _ (Nat.le_refl _),Nat.sub_self,List.set_cons_zero]
 simp
end Rt
theorem Tryz.infoIt:(Tryz.prog.info? 45).map (fun i=>(i.zero,i.size,i.bytes))=some (some (.agg #[.int .i64 0,.int .i64 0,.int .i64 0,.string ⟨#[]⟩,.slice none 0 0,.slice none 0 0,.int .i64 0,.int .i64 0,.slice none 0 0,.int .i64 0,.string ⟨#[]⟩,.int .i64 0,.int .i64 0,.int .i64 0,.int .i64 0,.slice none 0 0,.int .i64 0]),17,216):=by kernel_rfl
theorem make_it (n:Nat) (hn:n≤1000) (w:World):(Instr.makeSlice 23 (.int .i64 (n:Int)) (.int .i64 (n:Int))).run Tryz.prog w=.ok (.slice (some ⟨w.heap.size,0,none⟩) n n) (w.alloc (.cells (madeCells ([.int .i64 0,.int .i64 0,.int .i64 0,.string ⟨#[]⟩,.slice none 0 0,.slice none 0 0,.int .i64 0,.int .i64 0,.slice none 0 0,.int .i64 0,.string ⟨#[]⟩,.int .i64 0,.int .i64 0,.int .i64 0,.int .i64 0,.slice none 0 0,.int .i64 0]:List Value).toArray (n*17)) 45)):=by
 obtain ⟨i,hi,hzz⟩:=Option.map_eq_some_iff.1 Tryz.infoIt
 simp only [Prod.mk.injEq] at hzz
 obtain ⟨hz,hs,hb⟩:=hzz
 have hr:=run_make (P:=Tryz.prog) w 23 45 i _ Tryz.underlying23 hi hz .i64 .i64 n n (by omega) (Int.le_refl _) (by rw [hb];omega) (by omega)
 simp only [Int.toNat_natCast,hs] at hr
 exact hr
end Go.Proofs.YtnlenappjjlbjaaGreatDoor
namespace Go.Proofs.YtnlenappjjlbjaaGreatDoor
open Go.ChangeShapes Go.WideShapes Go.ChangeAt Go.RowKit Go.Shelf
set_option maxRecDepth 100000 in
set_option maxHeartbeats 12800000 in
theorem bcheck_any (A : Option Addr) (c : Nat) (xs : List Rt.ItL) {n : Nat} (hn : xs.length = n) {v : Int} (hv : Rs.chkI (Rt.its xs) = v) (w : World) (h : Rt.SlIt w A xs) (hl : n ≤ 9223372036854775807) (hg : Gm w) :
    Calls Tryz.prog 35 #[.slice A n c] w fun e w'=>e=.returned (.int .i64 v)∧Ext w w':=by
 have H:=Hi h
 have HV:=Hi hv
 have HN:=Hi hn
 have HL:Hid ((Rt.its xs).length=n):=Hi ((Rt.its_len xs).trans hn)
 clear h hv hn
 have HG:=Hi hg
 clear hg
 by_cases h60:60<n
 · have HF:Hid (v=5):=Hi (by rw [← HV.out];exact Rt.chkI_many (by rw [HL.out];exact h60))
   go_enter Tryz.func35,Tryz.ntmps35
   go_wp2
   go_ret
   exact ⟨ret_int HF.out.symm,Ext.refl _⟩
 go_enter Tryz.func35,Tryz.ntmps35
 go_wp2
 go_loopw [3] (fun i wr=>∃ k:Nat,(k+1≤n∨k=0)∧i=.int .i64 (k+1)∧Hid (It.allN (Rs.ordA (Rt.its xs)) (k+1)=true)∧Hid (Ext w wr)) (fun i _=>n+1-(intOf i).toNat)
 case atStart=>exact ⟨0,by omega,rfl,Hi rfl,Hi (Ext.refl _)⟩
 case round =>
  obtain ⟨k,hk,rfl,HA,HE⟩:=hrel
  by_cases hlt:k+1<n
  · obtain ⟨x,hx⟩:∃ x,xs[k+1]?=some x:=⟨xs[k+1]'(by rw [HN.out];exact hlt),List.getElem?_eq_getElem _⟩
    obtain ⟨y,hy⟩:∃ y,xs[k]?=some y:=⟨xs[k]'(by rw [HN.out];omega),List.getElem?_eq_getElem _⟩
    obtain ⟨b,off,rfl,hb,hc,-⟩:=(H.out.ext HE.out).at_ hx
    obtain ⟨b',off',e',hb',hc',-⟩:=(H.out.ext HE.out).at_ hy
    obtain ⟨rfl,rfl⟩:b=b'∧off=off':=by cases e';exact ⟨rfl,rfl⟩
    have c0:=Rt.SlIt.id hc
    have c1:=Rt.SlIt.id hc'
    have HX:=Hi (Rt.its_at hx)
    have HY:=Hi (Rt.its_at hy)
    have ki0:(0:Int)≤(k:Int):=by omega
    have ki1:(k:Int)+1<(n:Int):=by omega
    clear hx hy e' hc hc'
    by_cases hxy:x.1.id≤y.1.id
    · have HF:Hid (v=23):=Hi (by rw [← HV.out];exact Rt.chkI_bad (by rw [HL.out];omega) (Rt.ordI_no HX.out HY.out hxy))
      go_wp2_with fail
      go_quiet (fail)
      go_wp2
      go_ret
      exact ⟨ret_int HF.out.symm,HE.out.drewN _⟩
    · have hxy':y.1.id<x.1.id:=by omega
      have HF:=Hi (Rt.ordI_next HX.out HY.out hxy' HA.out)
      clear hxy
      go_wp2_with fail
      go_quiet (fail)
      go_wp2
      go_roundw
      case rel=>exact ⟨k+1,by omega,by go_num,HF,Hi (HE.out.drewN _)⟩
      case measure=>simp [intOf];omega
  · have HF:Hid (v=Rs.fstN (Rs.vldAt (Rt.its xs)) n):=Hi (by
      rw [← HV.out,Rt.chkI_rest (by rw [HL.out];omega) ?_,HL.out]
      unfold Rs.ordI
      rw [HL.out]
      rcases Nat.eq_zero_or_pos n with h0 | h0
      · rw [h0];rfl
      · rw [show n=k+1 by omega];exact HA.out)
    clear hk
    have hlt':¬ (k:Int)+1<(n:Int):=by omega
    go_wp2
    go_loopw [30] (fun i wr=>∃ k:Nat,k≤n∧i=.int .i64 k∧Hid (Rs.fstN (Rs.vldAt (Rt.its xs)) k=0)∧Hid (Ext w wr)) (fun i _=>n-(intOf i).toNat)
    case atStart=>exact ⟨0,by omega,rfl,Hi rfl,HE⟩
    case round =>
     clear HE HA hlt hlt'
     obtain ⟨k,hk,rfl,HA,HE⟩:=hrel
     by_cases hlt:k<n
     · obtain ⟨x,hx⟩:∃ x,xs[k]?=some x:=⟨xs[k]'(by rw [HN.out];exact hlt),List.getElem?_eq_getElem _⟩
       obtain ⟨b,off,rfl,hb,hc,hin⟩:=(H.out.ext HE.out).at_ hx
       obtain ⟨CA,hca,hna,h1a,hka⟩:=rs_packed x.1 x.2
       have HC:Hid (wr.rangeAt b (off+k*17) CA.toList):=Hi (by rw [← hka];exact hc)
       have HX:=Hi (Rt.its_at hx)
       have HI:=Hi hin
       have IA:=Hi (Rt.infoItem hna)
       have NA:=Hi hna
       have OA:=Hi h1a
       have ki0:(0:Int)≤(k:Int):=by omega
       have ki1:(k:Int)<(n:Int):=by omega
       obtain ⟨q,hq⟩:∃ q,It.vld x.1=q:=⟨_,rfl⟩
       have HQ:Hid (Rs.vldAt (Rt.its xs) k=q):=Hi (by rw [Rs.vldAt_at HX.out];exact hq)
       have HV2:=Hi (valid_any x.1 x.2)
       rw [hq,hca] at HV2
       clear hx hc hin hca hka hna h1a hq
       by_cases hq0:q=0
       · subst hq0
         go_wp2_with (first
          | (with_reducible refine wpList_load_arr rfl 45 (.tmp 32) rfl b (off+k*17) (by with_unfolding_all rfl) CA _ HC.out Tryz.underlying45 rfl IA.out ?_)
          | (with_reducible refine wpList_store_new rfl 45 (.tmp 5) (.tmp 33) rfl _ CA 45 (by with_unfolding_all rfl) (by with_unfolding_all rfl) IA.out (by with_unfolding_all exact NA.out.symm) OA.out ?_)
          | (with_reducible refine wpList_load_row rfl 45 (.tmp 5) rfl wr.heap.size (by with_unfolding_all rfl) _ CA _ _ (heap_alloc_last wr _) Tryz.underlying45 rfl IA.out ?_))
         have X0:Ext wr (wr.alloc (.cells CA 45)):=(Ext.refl _).alloc _
         have X1:=HE.out.trans X0
         with_reducible refine (HV2.out _ (HI.out.ext X0) (HG.out.ext X1)).mono ?_
         rintro e w3 ⟨rfl,hb3⟩
         have HE3:=Hi (X1.trans hb3)
         clear hb3 X0 X1
         have HF2:Hid (Rs.fstN (Rs.vldAt (Rt.its xs)) (k+1)=0):=Hi (Rs.fstN_next HA.out HQ.out)
         go_wp2
         go_roundw
         case rel=>exact ⟨k+1,by omega,by go_num,HF2,HE3⟩
         case measure=>simp [intOf];omega
       · have t0:(q != 0)=true:=by rw [bne_iff_ne];exact hq0
         have HF2:Hid (v=q):=Hi (by rw [HF.out];exact Rs.fstN_hit hlt HA.out HQ.out hq0)
         clear hq0
         go_wp2_with (first
          | (with_reducible refine wpList_load_arr rfl 45 (.tmp 32) rfl b (off+k*17) (by with_unfolding_all rfl) CA _ HC.out Tryz.underlying45 rfl IA.out ?_)
          | (with_reducible refine wpList_store_new rfl 45 (.tmp 5) (.tmp 33) rfl _ CA 45 (by with_unfolding_all rfl) (by with_unfolding_all rfl) IA.out (by with_unfolding_all exact NA.out.symm) OA.out ?_)
          | (with_reducible refine wpList_load_row rfl 45 (.tmp 5) rfl wr.heap.size (by with_unfolding_all rfl) _ CA _ _ (heap_alloc_last wr _) Tryz.underlying45 rfl IA.out ?_))
         have X0:Ext wr (wr.alloc (.cells CA 45)):=(Ext.refl _).alloc _
         have X1:=HE.out.trans X0
         with_reducible refine (HV2.out _ (HI.out.ext X0) (HG.out.ext X1)).mono ?_
         rintro e w3 ⟨rfl,hb3⟩
         have HE3:=Hi (X1.trans hb3)
         clear hb3 X0 X1
         go_wp2
         go_ret
         exact ⟨ret_int HF2.out.symm,HE3.out⟩
     · obtain rfl:k=n:=by omega
       have HF2:Hid (v=0):=Hi (by rw [HF.out];exact HA.out)
       go_wp2
       go_ret
       exact ⟨ret_int HF2.out.symm,HE.out⟩
end Go.Proofs.YtnlenappjjlbjaaGreatDoor
namespace Go.Proofs.YtnlenappjjlbjaaGreatDoor
open Go.ChangeShapes Go.WideShapes Go.ChangeAt Go.RowKit
namespace It
theorem beqB_refl (s:ByteArray):eqB s s=true:=by unfold eqB;first | exact decide_eq_true rfl | (rw [It.beqB];exact decide_eq_true rfl) | simp
theorem beqS_refl (s:List ByteArray):eqS s s=true:=by unfold eqS;first | exact decide_eq_true rfl | simp
theorem beqI_refl (s:List Int):eqI s s=true:=by unfold eqI;first | exact decide_eq_true rfl | simp
theorem diff_same (a:Item):diff a a=[]:=by
 unfold diff pairs
 simp only [bne_self_eq_false,beqB_refl,beqS_refl,beqI_refl,Bool.not_true]
 rfl
end It
set_option maxRecDepth 100000 in
set_option maxHeartbeats 6400000 in
theorem sameItem_eq (a : It.Item) (La Lb : It.Loc) (w : World) (ha : It.In w a La) (hb : It.In w a Lb) :
    Calls Tryz.prog 47 #[It.agg a La,It.agg a Lb] w fun e w'=>e=.returned (.bool true)∧Ext w w':=by
 obtain ⟨CA,hca,hna,-,-⟩:=rs_packed a La
 obtain ⟨CB,hcb,hnb,-,-⟩:=rs_packed a Lb
 have HD:=Hi (rdiff_any a a La Lb)
 rw [hca,hcb] at HD
 rw [hca,hcb]
 have HA:=Hi ha
 have HB:=Hi hb
 have IA:=Hi (Rt.infoItem hna)
 have IB:=Hi (Rt.infoItem hnb)
 clear ha hb hca hcb hna hnb
 go_enter Tryz.func47,Tryz.ntmps47
 go_wp2_with (first
  | (with_reducible refine wpList_load_row rfl 45 (.tmp 2) rfl w.heap.size (by with_unfolding_all rfl) _ CA _ _ (two_fst _ _ _) Tryz.underlying45 rfl IA.out ?_)
  | (with_reducible refine wpList_load_row rfl 45 (.tmp 3) rfl (w.heap.size+1) (by with_unfolding_all rfl) _ CB _ _ (two_snd _ _ _) Tryz.underlying45 rfl IB.out ?_))
 have X0:Ext w ((w.alloc (.cells CA 45)).alloc (.cells CB 45)):=((Ext.refl _).alloc _).alloc _
 with_reducible refine (HD.out _ (HA.out.ext X0) (HB.out.ext X0)).mono ?_
 rintro e w1 ⟨⟨A,c,rfl,-,-,-⟩,hb1⟩
 have X1:=Hi (X0.trans hb1)
 clear hb1 X0
 rw [It.diff_same]
 dsimp only [List.length_nil]
 go_wp2
 go_ret
 exact ⟨rfl,X1.out⟩
def rtdL (b off n c b' off' c' k:Nat) (CA CB:Array Value):List (Option Value→World→Prop):=[fun u _=>u=some (.slice (some ⟨b,off,none⟩) n c),
 fun u _=>u=some (.int .i64 (k:Int)),
 fun u _=>u=some (.pointer (some ⟨b,off+k*17,none⟩)),
 fun u _=>u=some (.agg CA),
 fun u _=>u=some (.slice (some ⟨b',off',none⟩) n c'),
 fun u _=>u=some (.int .i64 (k:Int)),
 fun u _=>u=some (.pointer (some ⟨b',off' + k*17,none⟩)),
 fun u _=>u=some (.agg CB),
 fun u _=>u=some (.bool true),
 fun u _=>u=some (.bool false)]
theorem rtdL_mono (b off n c b' off' c' k:Nat) (CA CB:Array Value):AllMono (rtdL b off n c b' off' c' k CA CB):=⟨mono_val _,mono_val _,mono_val _,mono_val _,mono_val _,mono_val _,mono_val _,mono_val _,mono_val _,mono_val _,trivial⟩
def rtdR (b off n c b' off' c' k:Nat) (CA CB:Array Value) (j:Nat) (u:Option Value) (w:World):Prop:=(rtdL b off n c b' off' c' k CA CB).getD j (fun _ _=>True) u w
theorem rtdR_ext (b off n c b' off' c' k:Nat) (CA CB:Array Value) (j:Nat) (u:Option Value) (w w':World) (he:Ext w w') (h:rtdR b off n c b' off' c' k CA CB j u w):rtdR b off n c b' off' c' k CA CB j u w':=((rtdL_mono b off n c b' off' c' k CA CB).at_ j) u w w' he h
def rtdD:List Nat:=[17,18,19,20,21,22,23,24,25,26]
def rtdE (b off n c b' off' c' k:Nat) (t:Array Value):Prop:=t.getD 0 undef=.slice (some ⟨b,off,none⟩) n c∧t.getD 1 undef=.slice (some ⟨b',off',none⟩) n c'∧t.getD 5 undef=.int .i64 (k:Int)∧t.size=27
set_option maxRecDepth 100000 in
set_option maxHeartbeats 12800000 in
theorem sameItems_eq (A A' : Option Addr) (c c' : Nat) (xs ys : List Rt.ItL) {n : Nat} (hn : xs.length = n) (hxy : Rt.its xs = Rt.its ys) (w : World) (h : Rt.SlIt w A xs) (h' : Rt.SlIt w A' ys) (hl : n ≤ 9223372036854775807) :
    Calls Tryz.prog 18 #[.slice A n c,.slice A' n c'] w fun e w'=>e=.returned (.bool true)∧Ext w w':=by
 have H:=Hi h
 have H':=Hi h'
 have HN:=Hi hn
 have HM:Hid (ys.length=n):=Hi (by rw [← Rt.its_len ys,← hxy,Rt.its_len];exact hn)
 have HXY:=Hi hxy
 have ENS:=Hi (enters_of Tryz.func47 (by kernel_rfl) rfl)
 clear h h' hn hxy
 have t0:((n:Int) != (n:Int))=false:=by simp
 go_enter Tryz.func18,Tryz.ntmps18
 go_wp2
 go_loopw [5] (fun i wr=>∃ k:Nat,k≤n∧i=.int .i64 k∧Hid (Ext w wr)) (fun i _=>n-(intOf i).toNat)
 case atStart=>exact ⟨0,by omega,rfl,Hi (Ext.refl _)⟩
 case round =>
  obtain ⟨k,hk,rfl,HE⟩:=hrel
  by_cases hlt:k<n
  · obtain ⟨x,hx⟩:∃ x,xs[k]?=some x:=⟨xs[k]'(by rw [HN.out];exact hlt),List.getElem?_eq_getElem _⟩
    obtain ⟨y,hy⟩:∃ x,ys[k]?=some x:=⟨ys[k]'(by rw [HM.out];exact hlt),List.getElem?_eq_getElem _⟩
    have hs:x.1=y.1:=by
     have h1:=Rt.its_at hx
     rw [HXY.out,Rt.its_at hy] at h1
     exact (Option.some.inj h1).symm
    obtain ⟨b,off,rfl,hb,hc,hin⟩:=(H.out.ext HE.out).at_ hx
    obtain ⟨b',off',rfl,hb',hc',hin'⟩:=(H'.out.ext HE.out).at_ hy
    obtain ⟨CA,hca,hna,-,hka⟩:=rs_packed x.1 x.2
    obtain ⟨CB,hcb,hnb,-,hkb⟩:=rs_packed y.1 y.2
    have HRA:Hid (wr.rangeAt b (off+k*17) CA.toList):=Hi (by rw [← hka];exact hc)
    have HRB:Hid (wr.rangeAt b' (off' + k*17) CB.toList):=Hi (by rw [← hkb];exact hc')
    have IA:=Hi (Rt.infoItem hna)
    have IB:=Hi (Rt.infoItem hnb)
    have HIA:Hid (It.In w x.1 x.2):=Hi (H.out.2 x (List.mem_of_getElem? hx))
    have HIB:Hid (It.In w x.1 y.2):=Hi (by rw [hs];exact H'.out.2 y (List.mem_of_getElem? hy))
    have HS:Hid (∀ w,It.In w x.1 x.2→It.In w x.1 y.2→Calls Tryz.prog 47 #[.agg CA,.agg CB] w fun e w'=>e=.returned (.bool true)∧Ext w w'):=Hi (fun w h1 h2=>by
     have:=sameItem_eq x.1 x.2 y.2 w h1 h2
     rw [hca] at this
     rw [hs,hcb] at this
     exact this)
    have ki1:(k:Int)<(n:Int):=by omega
    have KI:=Hi (And.intro ki1 hlt)
    clear hx hy hc hc' hin hin' hca hcb hna hnb hka hkb hs
    go_wp2_with fail
    refine region_tb (by kernel_rfl) (by decide +kernel) (rtdE b off n c b' off' c' k) ⟨rfl,rfl,rfl,rfl⟩ 10 rtdD (fun _=>none) (rtdR b off n c b' off' c' k CA CB) wr (Ext.refl _) (fun i h1 h2=>absurd h2 (Nat.not_lt.2 h1)) ?_ ?_
    · intro Tv dd lv U wz i o hE ho hlv hd hT
      obtain ⟨t0,t1,t5,tz⟩:=hE
      have hx:=hT.ext
      match i,ho,hlv,hd with
      | 0,ho,hlv,hd =>
       obtain rfl:=Option.some.inj ho
       have v0:=eval_old (d:=dd) (hT.out 0 (by decide)) (by omega) t0
       refine tbw_yield (v:=.slice (some ⟨b,off,none⟩) n c) (rtdR_ext b off n c b' off' c' k CA CB) hT ho hd (wanted_plain rfl) rfl (by decide) (by decide) ?_ (Ext.refl _) rfl
       generalize Act.eval ⟨over Tv U,dd⟩=ev at *
       simp [execOp,go_sem,v0]
      | 1,ho,hlv,hd =>
       obtain rfl:=Option.some.inj ho
       have v0:=eval_old (d:=dd) (hT.out 5 (by decide)) (by omega) t5
       refine tbw_yield (v:=.int .i64 (k:Int)) (rtdR_ext b off n c b' off' c' k CA CB) hT ho hd (wanted_plain rfl) rfl (by decide) (by decide) ?_ (Ext.refl _) rfl
       generalize Act.eval ⟨over Tv U,dd⟩=ev at *
       simp [execOp,go_sem,v0]
      | 2,ho,hlv,hd =>
       obtain rfl:=Option.some.inj ho
       have f0:U 17=some (.slice (some ⟨b,off,none⟩) n c):=hT.facts 0 (by decide) (dep hd 0 (by kernel_rfl)) (fun c e=>by cases e)
       have v0:Act.eval ⟨over Tv U,dd⟩ (.tmp 17)=_:=eval_new (t:=Tv) (d:=dd) f0 (by show 17<Tv.size;omega)
       have f1:U 18=some (.int .i64 (k:Int)):=hT.facts 1 (by decide) (dep hd 1 (by kernel_rfl)) (fun c e=>by cases e)
       have v1:Act.eval ⟨over Tv U,dd⟩ (.tmp 18)=_:=eval_new (t:=Tv) (d:=dd) f1 (by show 18<Tv.size;omega)
       have ki:=KI.out
       refine tbw_yield (v:=.pointer (some ⟨b,off+k*17,none⟩)) (rtdR_ext b off n c b' off' c' k CA CB) hT ho hd (wanted_plain rfl) rfl (by decide) (by decide) ?_ (Ext.refl _) rfl
       generalize Act.eval ⟨over Tv U,dd⟩=ev at *
       simp [execOp,go_sem,v0,v1,ki]
      | 3,ho,hlv,hd =>
       obtain rfl:=Option.some.inj ho
       have f0:U 19=some (.pointer (some ⟨b,off+k*17,none⟩)):=hT.facts 2 (by decide) (dep hd 2 (by kernel_rfl)) (fun c e=>by cases e)
       have v0:Act.eval ⟨over Tv U,dd⟩ (.tmp 19)=_:=eval_new (t:=Tv) (d:=dd) f0 (by show 19<Tv.size;omega)
       refine tbw_yield (v:=.agg CA) (rtdR_ext b off n c b' off' c' k CA CB) hT ho hd (wanted_plain rfl) rfl (by decide) (by decide) (exec_load_arr _ _ rfl b (off+k*17) v0 CA _ (hx.range HRA.out) Tryz.underlying45 rfl IA.out) (Ext.refl _) rfl
      | 4,ho,hlv,hd =>
       obtain rfl:=Option.some.inj ho
       have v0:=eval_old (d:=dd) (hT.out 1 (by decide)) (by omega) t1
       refine tbw_yield (v:=.slice (some ⟨b',off',none⟩) n c') (rtdR_ext b off n c b' off' c' k CA CB) hT ho hd (wanted_plain rfl) rfl (by decide) (by decide) ?_ (Ext.refl _) rfl
       generalize Act.eval ⟨over Tv U,dd⟩=ev at *
       simp [execOp,go_sem,v0]
      | 5,ho,hlv,hd =>
       obtain rfl:=Option.some.inj ho
       have v0:=eval_old (d:=dd) (hT.out 5 (by decide)) (by omega) t5
       refine tbw_yield (v:=.int .i64 (k:Int)) (rtdR_ext b off n c b' off' c' k CA CB) hT ho hd (wanted_plain rfl) rfl (by decide) (by decide) ?_ (Ext.refl _) rfl
       generalize Act.eval ⟨over Tv U,dd⟩=ev at *
       simp [execOp,go_sem,v0]
      | 6,ho,hlv,hd =>
       obtain rfl:=Option.some.inj ho
       have f0:U 21=some (.slice (some ⟨b',off',none⟩) n c'):=hT.facts 4 (by decide) (dep hd 4 (by kernel_rfl)) (fun c e=>by cases e)
       have v0:Act.eval ⟨over Tv U,dd⟩ (.tmp 21)=_:=eval_new (t:=Tv) (d:=dd) f0 (by show 21<Tv.size;omega)
       have f1:U 22=some (.int .i64 (k:Int)):=hT.facts 5 (by decide) (dep hd 5 (by kernel_rfl)) (fun c e=>by cases e)
       have v1:Act.eval ⟨over Tv U,dd⟩ (.tmp 22)=_:=eval_new (t:=Tv) (d:=dd) f1 (by show 22<Tv.size;omega)
       have ki:=KI.out
       refine tbw_yield (v:=.pointer (some ⟨b',off' + k*17,none⟩)) (rtdR_ext b off n c b' off' c' k CA CB) hT ho hd (wanted_plain rfl) rfl (by decide) (by decide) ?_ (Ext.refl _) rfl
       generalize Act.eval ⟨over Tv U,dd⟩=ev at *
       simp [execOp,go_sem,v0,v1,ki]
      | 7,ho,hlv,hd =>
       obtain rfl:=Option.some.inj ho
       have f0:U 23=some (.pointer (some ⟨b',off' + k*17,none⟩)):=hT.facts 6 (by decide) (dep hd 6 (by kernel_rfl)) (fun c e=>by cases e)
       have v0:Act.eval ⟨over Tv U,dd⟩ (.tmp 23)=_:=eval_new (t:=Tv) (d:=dd) f0 (by show 23<Tv.size;omega)
       refine tbw_yield (v:=.agg CB) (rtdR_ext b off n c b' off' c' k CA CB) hT ho hd (wanted_plain rfl) rfl (by decide) (by decide) (exec_load_arr _ _ rfl b' (off' + k*17) v0 CB _ (hx.range HRB.out) Tryz.underlying45 rfl IB.out) (Ext.refl _) rfl
      | 8,ho,hlv,hd =>
       obtain rfl:=Option.some.inj ho
       have f0:U 20=some (.agg CA):=hT.facts 3 (by decide) (dep hd 3 (by kernel_rfl)) (fun c e=>by cases e)
       have v0:Act.eval ⟨over Tv U,dd⟩ (.tmp 20)=_:=eval_new (t:=Tv) (d:=dd) f0 (by show 20<Tv.size;omega)
       have f1:U 24=some (.agg CB):=hT.facts 7 (by decide) (dep hd 7 (by kernel_rfl)) (fun c e=>by cases e)
       have v1:Act.eval ⟨over Tv U,dd⟩ (.tmp 24)=_:=eval_new (t:=Tv) (d:=dd) f1 (by show 24<Tv.size;omega)
       refine tbw_call (f:=47) (args:=#[.agg CA,.agg CB]) (rtdR_ext b off n c b' off' c' k CA CB) hT ho hd (wanted_plain rfl) rfl (by decide) (by decide) (exec_call2 rfl rfl v0 v1 ENS.out) ?_
       refine (HS.out wz (HIA.out.ext (HE.out.trans hx)) (HIB.out.ext (HE.out.trans hx))).mono ?_
       rintro e w' ⟨rfl,hb⟩
       exact ⟨_,rfl,hb,rfl⟩
      | 9,ho,hlv,hd =>
       obtain rfl:=Option.some.inj ho
       have f0:U 25=some (.bool true):=hT.facts 8 (by decide) (dep hd 8 (by kernel_rfl)) (fun c e=>by cases e)
       have v0:Act.eval ⟨over Tv U,dd⟩ (.tmp 25)=_:=eval_new (t:=Tv) (d:=dd) f0 (by show 25<Tv.size;omega)
       refine tbw_yield (v:=.bool false) (rtdR_ext b off n c b' off' c' k CA CB) hT ho hd (wanted_plain rfl) rfl (by decide) (by decide) ?_ (Ext.refl _) rfl
       generalize Act.eval ⟨over Tv U,dd⟩=ev at *
       simp [execOp,go_sem,v0]
      | i+10,ho,_,_=>exact absurd ho (by simp)
    intro U wz hex hout hfin
    have f26:U 26=some (.bool false):=hfin 9 (by decide) rfl
    have XE:=Hi hex
    clear hex hfin
    rw [over_list]
    simp (disch:=decide) only [overL,Nat.reduceAdd,hout,Option.getD_none]
    rw [f26]
    simp only [Option.getD_some]
    clear hout f26
    have HE3:=Hi (HE.out.trans XE.out)
    go_wp2
    go_roundw
    case rel=>exact ⟨k+1,by omega,by go_num,HE3⟩
    case measure=>simp [intOf];omega
  · go_wp2
    go_ret
    exact ⟨rfl,HE.out⟩
end Go.Proofs.YtnlenappjjlbjaaGreatDoor
