/- cmp.Compare, cmp.Or at int; Norm's order of pairs: contracts for the walk. Conditions: those of each theorem. -/
import Derived.Test.YtfnmgcblhebdbaaGreatDoorZ18
import Derived.Sort.Grow
namespace Go.Proofs.YtfnmgcblhebdbaaGreatDoor
set_option maxRecDepth 100000
set_option maxHeartbeats 1600000
open Go.RowKit Go.Sort

namespace Bk
namespace En
def cmpI (a b:Int):Int:=if a<b then -1 else if b<a then 1 else 0
def cf (p q:Int×Int):Int:=if cmpI p.1 q.1≠0 then cmpI p.1 q.1 else cmpI p.2 q.2

theorem grown_a{w W:World}{os:Array Obj}(h:W=grow w os)(o:Obj):W.drew.alloc o=grow (w.drewN 1) (os ++ #[o]):=by subst h;rw[alloc_eq_grow,drew_grow,grow_grow];rfl
theorem grown_b{w W:World}{os:Array Obj}(h:W=grow w os)(o:Obj):(W.alloc o).drew=grow (w.drewN 1) (os ++ #[o]):=by subst h;rw[alloc_eq_grow,grow_grow,drew_grow];rfl
theorem isNaN_any(x:Int)(w:World):Calls Tryz.prog 146 #[.int .i64 x] w fun e w'=>e=.returned (.bool false)∧w'=w:=by
 go_enter Tryz.func146,Tryz.ntmps146
 go_wp2;go_ret;exact⟨rfl,rfl⟩
theorem compare_any(a b:Int)(w:World):Calls Tryz.prog 124 #[.int .i64 a,.int .i64 b] w fun e w'=>e=.returned (.int .i64 (cmpI a b))∧w'=w:=by
 unfold cmpI;rcases Int.lt_trichotomy a b with h | h | h
 · rw[if_pos h];go_enter Tryz.func124,Tryz.ntmps124
   go_wp2_with fail
   refine(isNaN_any a _).mono ?_;rintro e w1 ⟨rfl,rfl⟩;go_wp2_with fail
   refine(isNaN_any b _).mono ?_;rintro e w1 ⟨rfl,rfl⟩;go_wp2;go_ret;exact⟨rfl,rfl⟩
 · subst h;rw[if_neg (by omega),if_neg (by omega)];go_enter Tryz.func124,Tryz.ntmps124
   go_wp2_with fail
   refine(isNaN_any a _).mono ?_;rintro e w1 ⟨rfl,rfl⟩;go_wp2_with fail
   refine(isNaN_any a _).mono ?_;rintro e w1 ⟨rfl,rfl⟩;go_wp2;go_ret;exact⟨rfl,rfl⟩
 · have h':¬ a<b:=(by omega);rw[if_neg h',if_pos h];go_enter Tryz.func124,Tryz.ntmps124
   go_wp2_with fail
   refine(isNaN_any a _).mono ?_;rintro e w1 ⟨rfl,rfl⟩;go_wp2_with fail
   refine(isNaN_any b _).mono ?_;rintro e w1 ⟨rfl,rfl⟩;go_wp2;go_ret;exact⟨rfl,rfl⟩
theorem or_any(g:Nat)(x y:Int)(w:World)(h0:w.cell? ⟨g,0,none⟩=some (.int .i64 x))(h1:w.cell? ⟨g,1,none⟩=some (.int .i64 y)) :
    Calls Tryz.prog 123 #[.slice (some ⟨g,0,none⟩) 2 2] w fun e w'=>e=.returned (.int .i64 (if x≠0 then x else y))∧w'=w:=by
 go_enter Tryz.func123,Tryz.ntmps123
 go_wp2
 go_loop [8] (fun i=>∃ k:Nat,k≤2∧i=.int .i64 k∧(1≤k→x=0)∧(2≤k→y=0)) (fun i=>2-(intOf i).toNat)
 case atStart=>exact⟨0,by omega,rfl,fun h=>absurd h (by omega),fun h=>absurd h (by omega)⟩
 case round =>
  obtain⟨k,hk,rfl,hx,hy⟩:=hrel;have HX:=Hi hx;have HY:=Hi hy;clear hx hy;have hc:k=0∨k=1∨k=2:=by omega
  rcases hc with rfl | rfl | rfl
  · by_cases hz:x=0
    · have hz':(x != 0)=false:=(by rw[hz];rfl);go_wp2
      go_round
      case rel=>exact⟨1,by omega,by go_num,fun _=>hz,fun h=>absurd h (by omega)⟩
      case measure=>simp[intOf]
    · have hz':(x != 0)=true:=(by rw[bne_iff_ne];exact hz);go_wp2;go_ret;exact⟨ret_int (by first | rfl | rw[if_pos hz]),rfl⟩
  · have hx0:=HX.out (by omega);by_cases hz:y=0
    · have hz':(y != 0)=false:=(by rw[hz];rfl);go_wp2
      go_round
      case rel=>exact⟨2,by omega,by go_num,fun _=>hx0,fun _=>hz⟩
      case measure=>simp[intOf]
    · have hz':(y != 0)=true:=(by rw[bne_iff_ne];exact hz);go_wp2;go_ret;exact⟨ret_int (by first | rfl | rw[if_neg (by rw[hx0];simp)]),rfl⟩
  · have hx0:=HX.out (by omega);have hy0:=HY.out (by omega);go_wp2;go_ret;exact⟨ret_int (by first | rfl | rw[if_neg (by rw[hx0];simp),hy0]),rfl⟩
theorem compare_to{a b r:Int}(hr:cmpI a b=r)(w:World):Calls Tryz.prog 124 #[.int .i64 a,.int .i64 b] w fun e w'=>e=.returned (.int .i64 r)∧w'=w:=by
 subst hr;exact compare_any a b w

theorem or_to(g:Nat){x y v:Int}(hv:(if x≠0 then x else y)=v)(w:World)(h0:w.cell? ⟨g,0,none⟩=some (.int .i64 x))(h1:w.cell? ⟨g,1,none⟩=some (.int .i64 y)) :
    Calls Tryz.prog 123 #[.slice (some ⟨g,0,none⟩) 2 2] w fun e w'=>e=.returned (.int .i64 v)∧w'=w:=by
 subst hv;exact or_any g x y w h0 h1
theorem order_any(p q:Int×Int)(w:World) :
    Calls Tryz.prog 122 #[.agg #[.int .i64 p.1,.int .i64 p.2],.agg #[.int .i64 q.1,.int .i64 q.2]] w fun e w'=>e=.returned (.int .i64 (cf p q))∧∃ m os,w'=grow (w.drewN m) os:=by
 obtain⟨p1,p2⟩:=p;obtain⟨q1,q2⟩:=q;unfold cf;simp only;obtain⟨r,hr⟩:∃ r,cmpI p1 q1=r:=⟨_,rfl⟩;obtain⟨s,hs⟩:∃ s,cmpI p2 q2=s:=⟨_,rfl⟩;rw[hr,hs];obtain⟨v,hv⟩:∃ v,(if r≠0 then r else s)=v:=⟨_,rfl⟩;rw[hv];have HV:=Hi hv;clear hv;have HR:=Hi hr;have HS:=Hi hs;clear hr hs;go_enter Tryz.func122,Tryz.ntmps122
 go_wp2_with fail
 have c0:((w.alloc (.cells #[.int .i64 p1,.int .i64 p2] 80)).alloc (.cells #[.int .i64 q1,.int .i64 q2] 80)).cell? ⟨w.heap.size,0,none⟩=some (.int .i64 p1):=by simp[go_sem]
 have c1:((w.alloc (.cells #[.int .i64 p1,.int .i64 p2] 80)).alloc (.cells #[.int .i64 q1,.int .i64 q2] 80)).cell? ⟨w.heap.size,1,none⟩=some (.int .i64 p2):=by simp[go_sem]
 have c2:((w.alloc (.cells #[.int .i64 p1,.int .i64 p2] 80)).alloc (.cells #[.int .i64 q1,.int .i64 q2] 80)).cell? ⟨w.heap.size+1,0,none⟩=some (.int .i64 q1):=by simp[go_sem]
 have c3:((w.alloc (.cells #[.int .i64 p1,.int .i64 p2] 80)).alloc (.cells #[.int .i64 q1,.int .i64 q2] 80)).cell? ⟨w.heap.size+1,1,none⟩=some (.int .i64 q2):=by simp[go_sem]
 have HW:Hid (((w.alloc (.cells #[.int .i64 p1,.int .i64 p2] 80)).alloc (.cells #[.int .i64 q1,.int .i64 q2] 80))=grow w #[.cells #[.int .i64 p1,.int .i64 p2] 80,.cells #[.int .i64 q1,.int .i64 q2] 80]):=Hi (by rw[alloc_eq_grow,alloc_eq_grow,grow_grow];rfl);generalize ((w.alloc (.cells #[.int .i64 p1,.int .i64 p2] 80)).alloc (.cells #[.int .i64 q1,.int .i64 q2] 80))=W at *
 go_region_held3 (fun w'=>w'.cell? ⟨w.heap.size,0,none⟩=some (.int .i64 p1)∧w'.cell? ⟨w.heap.size,1,none⟩=some (.int .i64 p2)∧w'.cell? ⟨w.heap.size+1,0,none⟩=some (.int .i64 q1)∧w'.cell? ⟨w.heap.size+1,1,none⟩=some (.int .i64 q2))
  (first
   | (with_reducible exact⟨c0,c1,c2,c3⟩)
   | (exact⟨Ext.keep (Ext.drew (Ext.refl W)) c0,Ext.keep (Ext.drew (Ext.refl W)) c1,Ext.keep (Ext.drew (Ext.refl W)) c2,Ext.keep (Ext.drew (Ext.refl W)) c3⟩)
   | (exact⟨Ext.keep (Ext.alloc (Ext.drew (Ext.refl W)) _) c0,Ext.keep (Ext.alloc (Ext.drew (Ext.refl W)) _) c1,Ext.keep (Ext.alloc (Ext.drew (Ext.refl W)) _) c2,Ext.keep (Ext.alloc (Ext.drew (Ext.refl W)) _) c3⟩)
   | (exact⟨Ext.keep (Ext.drew (Ext.alloc (Ext.refl W) _)) c0,Ext.keep (Ext.drew (Ext.alloc (Ext.refl W) _)) c1,Ext.keep (Ext.drew (Ext.alloc (Ext.refl W) _)) c2,Ext.keep (Ext.drew (Ext.alloc (Ext.refl W) _)) c3⟩))
  (first
   | (go_at_call 124;with_reducible refine(compare_to HR.out _).mono ?_;rintro e w' ⟨rfl,rfl⟩)
   | (go_at_call 124;with_reducible refine(compare_to HS.out _).mono ?_;rintro e w' ⟨rfl,rfl⟩)
   | (go_at_call 123;refine(or_to _ HV.out _ (by simp[go_sem]) (by simp[go_sem])).mono ?_;rintro e w' ⟨rfl,rfl⟩))
 all_goals
  go_wp2;go_ret
  first | exact⟨rfl,1,_,grown_a HW.out _⟩ | exact⟨rfl,1,_,grown_b HW.out _⟩
end En
end Bk
end Go.Proofs.YtfnmgcblhebdbaaGreatDoor
