/- A map from integers to truth values that the call itself made. Conditions: those of each theorem. -/
import Derived.Test.YtfnmgcblhebdbaaGreatDoorZ12
import Derived.Maps.Own
import Derived.Maps.Views
namespace Go.Proofs.YtfnmgcblhebdbaaGreatDoor
open Go.RowKit Go.Maps
namespace Bk
def MpB (w:World)(b n:Nat)(f:Int→Option Bool):Prop:=∃ D:DataW Unit,w.ownsMap Tryz.prog 3 (plainElem Tryz.prog 4) b n D∧IsMap D∧∀ a,In64 a→∀ zd,D.atKey (.int .i64 a) zd=match f a with
 | none=>zd
 | some x=>.lit (.bool x)
theorem MpB.made(w:World):MpB (w.alloc (.map #[] 0)) w.heap.size 0 (fun _=>none) :=
 ⟨.map [],World.ownsMap_made w _ _ _,⟨[],rfl⟩,fun _ _ _=>rfl⟩
theorem MpB.ext{w w':World}{b n:Nat}{f:Int→Option Bool}(h:MpB w b n f)(he:Ext w w'):MpB w' b n f:=by obtain⟨D,⟨es,clock,hb,F,hs,hD⟩,h2,h3⟩:=h;exact⟨D,⟨es,clock,he.blockAt hb,F,hs,hD⟩,h2,h3⟩
theorem MpB.lt{w:World}{b n:Nat}{f:Int→Option Bool}(h:MpB w b n f):b<w.heap.size:=by obtain⟨D,h1,-⟩:=h;exact h1.lt
theorem wf64{a:Int}(h:In64 a):(Lit.int .i64 a).wf=true:=by
 have h1:=h.1;have h2:=h.2;show(decide (IntKind.i64.min≤a) && decide (a≤IntKind.i64.max))=true;have e1:IntKind.i64.min=-9223372036854775808:=by decide
 have e2:IntKind.i64.max=9223372036854775807:=by decide
 rw[e1,e2,decide_eq_true (by omega),decide_eq_true (by omega)];rfl
theorem plain_bool{v:Value}{z:DataW Unit×List MemPlace}(h:plainElem Tryz.prog 4 v=some z):∃ x,v=.bool x∧z=(.lit (.bool x),[]):=by
 have hu:=Tryz.underlying4;generalize Tryz.prog=P at h hu;unfold plainElem at h;rw[hu]at h;cases v with
 | bool x=>injection h with h;exact⟨x,rfl,h.symm⟩
 | _=>cases h
theorem MpB.look{w:World}{b n:Nat}{f:Int→Option Bool}(h:MpB w b n f){a:Int}(ha:In64 a)(c:Bool) :
    (Instr.lookup 166 (.map (some b)) (.int .i64 a) c).run Tryz.prog w=.ok (if c then .tuple #[.bool ((f a).getD false),.bool (f a).isSome]else .bool ((f a).getD false)) w:=by
 obtain⟨D,⟨es,clock,hb,F,hs,rfl⟩,h2,h3⟩:=h;have hz:(zeroValue 4).run Tryz.prog w=.ok (.bool false) w:=by kernel_rfl
 have K:Keyed Tryz.prog 3:=int_keyed Tryz.underlying3;rcases Maps.fit_look c K Tryz.underlying166 hz hb F (keyOf_int_mk Tryz.underlying3 (wf64 ha))with ⟨hrun,-,hat⟩ | ⟨e0,y,-,-,hrun,hRv,hat,-⟩
 · have hf:f a=none:=by
     cases hfa:f a with
     | none=>rfl
     | some x=>have h4:=h3 a ha (.lit (.bool (!x)));rw[hat,hfa]at h4;simp at h4
   rw[hrun,hf];cases c <;> rfl
 · obtain⟨x,hx,rfl⟩:=plain_bool hRv;have hf:f a=some x:=by
    cases hfa:f a with
    | none=>have h4:=h3 a ha (.lit (.bool (!x)));rw[hat,hfa]at h4;simp at h4
    | some x'=>have h4:=h3 a ha .nil;rw[hat,hfa]at h4;simp at h4;rw[h4]
   rw[hrun,hf,hx];cases c <;> rfl
theorem MpB.put{w:World}{b n:Nat}{f:Int→Option Bool}(h:MpB w b n f){a:Int}(ha:In64 a)(x:Bool)(hn:n<maxLen) :
    ∃ w',(Instr.mapUpdate 166 (.map (some b)) (.int .i64 a) (.bool x)).run Tryz.prog w=.ok () w'∧MpB w' b (n+1) (fun y=>if y=a then some x else f y)∧w.grownBy w' (some b):=by
 obtain⟨D,h1,h2,h3⟩:=h;have K:Keyed Tryz.prog 3:=int_keyed Tryz.underlying3;have hk:=keyOf_int_mk (P:=Tryz.prog) Tryz.underlying3 (wf64 ha);obtain⟨w',hrun,ho,hg⟩:=h1.update K Tryz.underlying166 hn hk (plainElem_bool Tryz.underlying4 x);refine⟨w',hrun,⟨_,ho,?_,fun y hy zd=>?_⟩,hg⟩
 · obtain⟨es,rfl⟩:=h2;exact⟨_,rfl⟩
 · by_cases hya:y=a
   · subst hya;show _=match (if y=y then some x else f y)with | none=>zd | some x=>.lit (.bool x)
     rw[if_pos rfl];exact atKey_put_same h2 (K.key hk) _ _
   · show _=match (if y=a then some x else f y)with | none=>zd | some x=>.lit (.bool x)
     rw[if_neg hya,atKey_put_other (by intro e;injection e with _ e;exact hya e)];exact h3 y hy zd
end Bk
end Go.Proofs.YtfnmgcblhebdbaaGreatDoor
