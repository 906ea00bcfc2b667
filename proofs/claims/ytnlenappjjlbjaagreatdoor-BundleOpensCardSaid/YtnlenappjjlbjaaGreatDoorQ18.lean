/- codec.appendNode of a tree that fits, of any depth: a contract. Conditions: those of each theorem. ref10.write of a tree that fits, of any depth: a contract. Conditions: those of each theorem. digest.Add, digest.Of and the reference's: contracts. Conditions: those of each theorem. codec.Encode of a tree that fits: a contract. Conditions: those of each theorem. ref10.fits of a tree that fits: a contract. Conditions: those of each theorem. ref10.Encode of a tree that fits: a contract. Conditions: those of each theorem. -/
import Derived.Test.YtnlenappjjlbjaaGreatDoorQ16
import Derived.Test.YtnlenappjjlbjaaGreatDoorQ9
import Derived.Test.YtnlenappjjlbjaaGreatDoorQ8
import Derived.Test.YtnlenappjjlbjaaGreatDoorQ17
import Derived.Test.YtnlenappjjlbjaaGreatDoorQ11
import Derived.Test.YtnlenappjjlbjaaGreatDoorQ20
namespace Go.Proofs.YtnlenappjjlbjaaGreatDoor
open Go.RowKit Go.Shelf

def ShE (d:Nat) (kd n:Int) (s:ByteArray) (ks:List Nd) (E:List Int):Prop :=
 (kd=1∧In64 n∧E=varB (foldZ n).toNat)∨(kd=2∧s.size≤2000∧E=varB s.size ++ byB s)∨(kd=3∧0<d∧ks.length≤1024∧(∀ k∈ks,Fits d k)∧E=varB ks.length ++ (ks.map (encT d)).flatten)
theorem fits_shape {d:Nat} {x:Nd} (h:Fits (d+1) x):∃ (tn:Nat) (kd n:Int) (s:ByteArray) (ks:List Nd) (E:List Int),tn≤9999999∧x=.mk tn kd n s ks∧encT (d+1) x=varB tn ++ ([kd] ++ E)∧ShE d kd n s ks E:=by
 obtain ⟨tn,ht,⟨n,hn,rfl⟩ | ⟨s,hs,rfl⟩ | ⟨ks,hd,hl,hk,rfl⟩⟩:=fits_cases h
 · exact ⟨tn,1,n,⟨#[]⟩,[],_,ht,rfl,encT_1,Or.inl ⟨rfl,hn,rfl⟩⟩
 · exact ⟨tn,2,0,s,[],_,ht,rfl,encT_2,Or.inr (Or.inl ⟨rfl,hs,rfl⟩)⟩
 · exact ⟨tn,3,0,⟨#[]⟩,ks,_,ht,rfl,encT_3,Or.inr (Or.inr ⟨rfl,hd,hl,hk,rfl⟩)⟩
theorem ShE.kind {d:Nat} {kd n:Int} {s:ByteArray} {ks:List Nd} {E:List Int} (h:ShE d kd n s ks E):1≤kd∧kd≤3:=by
 rcases h with ⟨rfl,_⟩ | ⟨rfl,_⟩ | ⟨rfl,_⟩ <;> omega
def AppAt (B d:Nat):Prop:=∀ (x:Nd) (M:Option Addr×Nat) (W0:World) (base:Nat) (v:Value) (xs:List Int) (w:World),W0.heap.size≤base→Ext W0 w→base≤w.heap.size→KidsAt B 0 d W0 M x.kids→Fits (d+1) x →
 xs.length+(encT (d+1) x).length≤1048576→RowU base xs w v →
 Calls Tryz.prog 56 #[v,nda x M] w fun e w'=>∃ v',e=.returned v'∧RowU base (xs ++ encT (d+1) x) w' v'∧Ext W0 w'∧NdK w w'
set_option maxRecDepth 100000 in
set_option maxHeartbeats 12800000 in
theorem app_core (B d : Nat) (ih : ∀ d', d = d' + 1 → AppAt B d') (tn : Nat) (kd n : Int) (s : ByteArray) (ks : List Nd) (E : List Int) (M : Option Addr × Nat) (W0 : World) (base : Nat) (v : Value) (xs : List Int) (w : World)
    (ht:tn≤9999999) (hS:ShE d kd n s ks E) (hB:W0.heap.size≤base) (hX:Ext W0 w) (hb:base≤w.heap.size) (hK:KidsAt B 0 d W0 M ks) (hn:xs.length+((varB tn).length+(1+E.length))≤1048576) (hR:RowU base xs w v) :
    Calls Tryz.prog 56 #[v,nda (.mk tn kd n s ks) M] w fun e w'=>∃ v',e=.returned v'∧RowU base (xs ++ varB tn ++ [kd] ++ E) w' v'∧Ext W0 w'∧NdK w w':=by
 obtain ⟨i0,hi0,hz0,hz1,hz2⟩:=info_parts Tryz.infoU8
 have EN:=Hi (enters_of Tryz.func95 (by kernel_rfl) rfl)
 obtain ⟨hk1,hk3⟩:=hS.kind
 have HV:Hid (∀ k,v.ownBlock=some k→k<w.heap.size+1):=Hi (fun k e=>by have:=own_lt hR _ e;omega)
 have HX:=Hi hX
 have HR:=Hi hR
 have HS:=Hi hS
 have HK:=Hi hK
 have HIH:=Hi ih
 clear hX hR hS hK ih
 simp only [nda,Nd.tag,Nd.kind,Nd.n,Nd.s,Nd.kids]
 go_enter Tryz.func56,Tryz.ntmps56
 go_wp2_with fail
 refine region_tb (by kernel_rfl) (by decide +kernel) (apE 55 w.heap.size v) ⟨rfl,rfl,rfl⟩ 14 apD apC (apR (w.alloc (.cells #[.int .i64 (tn:Int),.int .i64 kd,.int .i64 n,.string s,.slice M.1 ks.length M.2] 52)) w.heap.size (w.heap.size+1) base v xs tn kd #[.int .i64 (tn:Int),.int .i64 kd,.int .i64 n,.string s,.slice M.1 ks.length M.2]) W0 (HX.out.alloc _) (fun i h1 h2=>by
  have h1':11≤i:=h1
  rcases (show i=11∨i=12∨i=13 by omega) with rfl | rfl | rfl
  · exact ⟨heap_alloc_new _ _,by simp,NdK.ext (Ext.refl _).drew⟩
  · exact own_ext HR.out (((Ext.refl _).alloc _).drew)
  · rfl) ?_ ?_
 · intro T dd l' U wz i o hE ho hl hd hT
   obtain ⟨t0,t3,tz⟩:=hE
   match i,ho,hl,hd with
   | 0,ho,hl,hd =>
    obtain rfl:=Option.some.inj ho
    have l10:l' 10=false:=by
     cases h10:l' 10 with
     | false=>rfl
     | true =>
      have h9:=dep (hT.shut 10 _ rfl h10) 9 (by kernel_rfl)
      have h4:=dep (hT.shut 9 _ rfl h9) 4 (by kernel_rfl)
      have h0:=dep (hT.shut 4 _ rfl h4) 0 (by kernel_rfl)
      rw [hl] at h0;cases h0
    have hu:U 0=none:=hT.facts 13 (by decide) (hT.past 13 (by decide)) (fun c e=>by injection e with e;subst e;exact l10)
    have v0:=eval_old (d:=dd) hu (by omega) t0
    refine tb_pure (v:=v) hT ho hd rfl rfl (by decide) (by decide) ?_ rfl
    generalize Act.eval ⟨over T U,dd⟩=ev at *
    simp [execOp,go_sem,v0]
   | 1,ho,hl,hd =>
    obtain rfl:=Option.some.inj ho
    have v0:=eval_old (d:=dd) (hT.out 3 (by decide)) (by omega) t3
    refine tb_pure (v:=.pointer (some ⟨w.heap.size,0,none⟩)) hT ho hd rfl rfl (by decide) (by decide) ?_ rfl
    generalize Act.eval ⟨over T U,dd⟩=ev at *
    simp [execOp,go_sem,v0]
   | 2,ho,hl,hd =>
    obtain rfl:=Option.some.inj ho
    have fv0:U 8=some (.pointer (some ⟨w.heap.size,0,none⟩)):=hT.facts 1 (by decide) (dep hd 1 (by kernel_rfl)) (fun c e=>by cases e)
    have v0:Act.eval ⟨over T U,dd⟩ (.tmp 8)=_:=eval_new (t:=T) (d:=dd) fv0 (by show 8<T.size;omega)
    have hblk:wz.heap[w.heap.size]?=some (.cells #[.int .i64 (tn:Int),.int .i64 kd,.int .i64 n,.string s,.slice M.1 ks.length M.2] 52 (0,0))∧w.heap.size+1≤wz.heap.size∧NdK (w.alloc (.cells #[.int .i64 (tn:Int),.int .i64 kd,.int .i64 n,.string s,.slice M.1 ks.length M.2] 52)) wz:=hT.facts 11 (by decide) (hT.past 11 (Nat.le_refl 11)) (fun c e=>by cases e)
    have hc:wz.cell? ⟨w.heap.size,0,none⟩=some (.int .i64 (tn:Int)):=by rw [cell_of_row _ _ 0 _ _ _ hblk.1];rfl
    refine tb_pure (v:=.int .i64 (tn:Int)) hT ho hd rfl rfl (by decide) (by decide) ?_ rfl
    generalize Act.eval ⟨over T U,dd⟩=ev at *
    simp [execOp,go_sem,v0,hc]
   | 3,ho,hl,hd =>
    obtain rfl:=Option.some.inj ho
    have fv0:U 9=some (.int .i64 (tn:Int)):=hT.facts 2 (by decide) (dep hd 2 (by kernel_rfl)) (fun c e=>by cases e)
    have v0:Act.eval ⟨over T U,dd⟩ (.tmp 9)=_:=eval_new (t:=T) (d:=dd) fv0 (by show 9<T.size;omega)
    have hw:IntKind.u64.wrap (tn:Int)=(tn:Int):=by rw [u64_wrap];omega
    refine tb_pure (v:=.int .u64 (tn:Int)) hT ho hd rfl rfl (by decide) (by decide) ?_ rfl
    generalize Act.eval ⟨over T U,dd⟩=ev at *
    simp [execOp,go_sem,v0,hw]
   | 4,ho,hl,hd =>
    obtain rfl:=Option.some.inj ho
    have fv0:U 7=some (v):=hT.facts 0 (by decide) (dep hd 0 (by kernel_rfl)) (fun c e=>by cases e)
    have v0:Act.eval ⟨over T U,dd⟩ (.tmp 7)=_:=eval_new (t:=T) (d:=dd) fv0 (by show 7<T.size;omega)
    have fv1:U 10=some (.int .u64 (tn:Int)):=hT.facts 3 (by decide) (dep hd 3 (by kernel_rfl)) (fun c e=>by cases e)
    have v1:Act.eval ⟨over T U,dd⟩ (.tmp 10)=_:=eval_new (t:=T) (d:=dd) fv1 (by show 10<T.size;omega)
    have hblk:wz.heap[w.heap.size]?=some (.cells #[.int .i64 (tn:Int),.int .i64 kd,.int .i64 n,.string s,.slice M.1 ks.length M.2] 52 (0,0))∧w.heap.size+1≤wz.heap.size∧NdK (w.alloc (.cells #[.int .i64 (tn:Int),.int .i64 kd,.int .i64 n,.string s,.slice M.1 ks.length M.2] 52)) wz:=hT.facts 11 (by decide) (hT.past 11 (Nat.le_refl 11)) (fun c e=>by cases e)
    have f12:RowU base xs wz v:=hT.facts 12 (by decide) (hT.past 12 (by decide)) (fun c e=>by injection e with e;subst e;exact hl)
    have l9:l' 9=false:=by
     cases h9:l' 9 with
     | false=>rfl
     | true =>
      have h4:=dep (hT.shut 9 _ rfl h9) 4 (by kernel_rfl)
      rw [hl] at h4;cases h4
    have l10:l' 10=false:=by
     cases h10:l' 10 with
     | false=>rfl
     | true =>
      have h9:=dep (hT.shut 10 _ rfl h10) 9 (by kernel_rfl)
      rw [l9] at h9;cases h9
    refine tb_callX (f:=95) (args:=#[v,.int .u64 (tn:Int)]) hT ho hd rfl rfl (by decide) (by decide) (exec_call2 rfl rfl v0 v1 EN.out) ?_
    refine (av_any W0 base hB v xs tn (by omega) wz hT.ext (by omega) (by omega) f12).mono ?_
    rintro e w' ⟨v',rfl,hr,hx,hfr⟩
    refine ⟨v',rfl,hx,⟨v',rfl,hr⟩,fun j hj hji hlj hcj hj2=>?_⟩
    refine apR_fra _ _ _ _ _ _ _ _ _ (fun k hk=>HV.out k hk) j _ _ _ v' hfr (NdK.fra f12 hfr) hji ?_ ?_ ?_ hj2
    · rintro rfl;rw [l9] at hlj;cases hlj
    · rintro rfl;rw [l10] at hlj;cases hlj
    · rintro rfl;exact absurd rfl (hcj 4 rfl).1
   | 5,ho,hl,hd =>
    obtain rfl:=Option.some.inj ho
    have v0:=eval_old (d:=dd) (hT.out 3 (by decide)) (by omega) t3
    refine tb_pure (v:=.pointer (some ⟨w.heap.size,1,none⟩)) hT ho hd rfl rfl (by decide) (by decide) ?_ rfl
    generalize Act.eval ⟨over T U,dd⟩=ev at *
    simp [execOp,go_sem,v0]
   | 6,ho,hl,hd =>
    obtain rfl:=Option.some.inj ho
    have fv0:U 12=some (.pointer (some ⟨w.heap.size,1,none⟩)):=hT.facts 5 (by decide) (dep hd 5 (by kernel_rfl)) (fun c e=>by cases e)
    have v0:Act.eval ⟨over T U,dd⟩ (.tmp 12)=_:=eval_new (t:=T) (d:=dd) fv0 (by show 12<T.size;omega)
    have hblk:wz.heap[w.heap.size]?=some (.cells #[.int .i64 (tn:Int),.int .i64 kd,.int .i64 n,.string s,.slice M.1 ks.length M.2] 52 (0,0))∧w.heap.size+1≤wz.heap.size∧NdK (w.alloc (.cells #[.int .i64 (tn:Int),.int .i64 kd,.int .i64 n,.string s,.slice M.1 ks.length M.2] 52)) wz:=hT.facts 11 (by decide) (hT.past 11 (Nat.le_refl 11)) (fun c e=>by cases e)
    have hc:wz.cell? ⟨w.heap.size,1,none⟩=some (.int .i64 kd):=by rw [cell_of_row _ _ 1 _ _ _ hblk.1];rfl
    refine tb_pure (v:=.int .i64 kd) hT ho hd rfl rfl (by decide) (by decide) ?_ rfl
    generalize Act.eval ⟨over T U,dd⟩=ev at *
    simp [execOp,go_sem,v0,hc]
   | 7,ho,hl,hd =>
    obtain rfl:=Option.some.inj ho
    have fv0:U 13=some (.int .i64 kd):=hT.facts 6 (by decide) (dep hd 6 (by kernel_rfl)) (fun c e=>by cases e)
    have v0:Act.eval ⟨over T U,dd⟩ (.tmp 13)=_:=eval_new (t:=T) (d:=dd) fv0 (by show 13<T.size;omega)
    have hw:IntKind.u8.wrap kd=kd:=by simp only [IntKind.wrap,IntKind.bits,IntKind.signed];simp;omega
    refine tb_pure (v:=.int .u8 kd) hT ho hd rfl rfl (by decide) (by decide) ?_ rfl
    generalize Act.eval ⟨over T U,dd⟩=ev at *
    simp [execOp,go_sem,v0,hw]
   | 8,ho,hl,hd =>
    obtain rfl:=Option.some.inj ho
    have fv0:U 14=some (.int .u8 kd):=hT.facts 7 (by decide) (dep hd 7 (by kernel_rfl)) (fun c e=>by cases e)
    have v0:Act.eval ⟨over T U,dd⟩ (.tmp 14)=_:=eval_new (t:=T) (d:=dd) fv0 (by show 14<T.size;omega)
    have hblk:wz.heap[w.heap.size]?=some (.cells #[.int .i64 (tn:Int),.int .i64 kd,.int .i64 n,.string s,.slice M.1 ks.length M.2] 52 (0,0))∧w.heap.size+1≤wz.heap.size∧NdK (w.alloc (.cells #[.int .i64 (tn:Int),.int .i64 kd,.int .i64 n,.string s,.slice M.1 ks.length M.2] 52)) wz:=hT.facts 11 (by decide) (hT.past 11 (Nat.le_refl 11)) (fun c e=>by cases e)
    refine tb_ext (v:=.slice (some ⟨wz.heap.size,0,none⟩) 1 1) (w':=wz.alloc (.cells #[.int .u8 kd] 5)) (apR_ext (w.alloc (.cells #[.int .i64 (tn:Int),.int .i64 kd,.int .i64 n,.string s,.slice M.1 ks.length M.2] 52)) w.heap.size (w.heap.size+1) base v xs tn kd #[.int .i64 (tn:Int),.int .i64 kd,.int .i64 n,.string s,.slice M.1 ks.length M.2]) hT ho hd rfl rfl (by decide) (by decide) ?_ ((Ext.refl _).alloc _) ⟨wz.heap.size,rfl,hblk.2.1,by simp,by rw [World.cell?_alloc_new];rfl⟩
    generalize Act.eval ⟨over T U,dd⟩=ev at *
    simp [execOp,v0,go_sem]
   | 9,ho,hl,hd =>
    obtain rfl:=Option.some.inj ho
    obtain ⟨v1,f4,hown⟩:∃ v',U 11=some v'∧RowU base (xs ++ varB tn) wz v':=hT.facts 4 (by decide) (dep hd 4 (by kernel_rfl)) (fun c e=>by first | (injection e with e;subst e;exact hl) | cases e)
    have e1:Act.eval ⟨over T U,dd⟩ (.tmp 11)=_:=eval_new (t:=T) (d:=dd) f4 (by show 11<T.size;omega)
    obtain ⟨q,f8,hq,hq2,hc⟩:∃ q,U 15=some (.slice (some ⟨q,0,none⟩) 1 1)∧w.heap.size+1≤q∧q<wz.heap.size∧wz.cell? ⟨q,0,none⟩=some (.int .u8 kd):=hT.facts 8 (by decide) (dep hd 8 (by kernel_rfl)) (fun c e=>by injection e with e;subst e;exact hl)
    have e2:Act.eval ⟨over T U,dd⟩ (.tmp 15)=_:=eval_new (t:=T) (d:=dd) f8 (by show 15<T.size;omega)
    have hblk:wz.heap[w.heap.size]?=some (.cells #[.int .i64 (tn:Int),.int .i64 kd,.int .i64 n,.string s,.slice M.1 ks.length M.2] 52 (0,0))∧w.heap.size+1≤wz.heap.size∧NdK (w.alloc (.cells #[.int .i64 (tn:Int),.int .i64 kd,.int .i64 n,.string s,.slice M.1 ks.length M.2] 52)) wz:=hT.facts 11 (by decide) (hT.past 11 (Nat.le_refl 11)) (fun c e=>by cases e)
    have hsl:Sl wz 1 (some ⟨q,0,none⟩) [[.int .u8 kd]]:=by
     refine Or.inr ⟨q,0,rfl,hq2,fun i cs hi j u hu=>?_⟩
     match i,hi with
     | 0,hi =>
      simp at hi
      subst hi
      match j,hu with
      | 0,hu=>simp at hu;subst hu;exact hc
    have hln:(xs ++ varB tn).length=xs.length+(varB tn).length:=List.length_append
    obtain ⟨v',w',hrun,hown2,hgr,-⟩:=run_append_sl (P:=Tryz.prog) wz base 24 24 5 i0 (.int .u8 0) 1 1 Tryz.underlying24 hi0 hz0 hz1 hz2 rfl (by decide) v1 _ _ hown (some ⟨q,0,none⟩) 1 [[.int .u8 kd]] hsl (by simp) (by simp [Value.oneCell']) (by rw [hln];show _+1≤maxLen;unfold maxLen;omega) (by rw [hln];show (_+1)*1≤_;omega) (by omega)
    have l10:l' 10=false:=by
     cases h10:l' 10 with
     | false=>rfl
     | true =>
      have h9:=dep (hT.shut 10 _ rfl h10) 9 (by kernel_rfl)
      rw [hl] at h9;cases h9
    have hR9:RowU base (xs ++ varB tn ++ [kd]) w' v':=by
     unfold RowU
     rw [List.length_append,List.map_append]
     exact hown2
    refine tb_yield (v:=v') (w':=w') hT ho hd rfl rfl (by decide) (by decide) (exec_append rfl e1 e2 hrun) (hT.ext.grown hgr (fun q hq=>Nat.le_trans hB (own_ge hown q hq))) ⟨v',rfl,hR9⟩ ?_
    have hnk:=NdK.grown hown hgr
    intro j hj hji hlj hcj hR
    match j,hj,hR with
    | 0,_,hR=>exact hR
    | 1,_,hR=>exact hR
    | 2,_,hR=>exact hR
    | 3,_,hR=>exact hR
    | 4,_,_=>exact absurd rfl (hcj 9 rfl).1
    | 5,_,hR=>exact hR
    | 6,_,hR=>exact hR
    | 7,_,hR=>exact hR
    | 8,_,_=>exact absurd rfl (hcj 9 rfl).1
    | 9,_,_=>exact absurd rfl hji
    | 10,_,_=>rw [l10] at hlj;cases hlj
    | 11,_,hR=>exact ⟨hnk.2 _ _ hR.1,Nat.le_trans hR.2.1 hnk.1,hR.2.2.trans hnk⟩
    | 12,_,_=>exact absurd (dep hd 4 (by kernel_rfl)) (by rw [(hcj 4 rfl).2];decide)
    | 13,_,hR=>exact hR
    | j+14,hj,_=>exact absurd hj (by omega)
   | 10,ho,hl,hd =>
    obtain rfl:=Option.some.inj ho
    obtain ⟨v1,f9,hown⟩:∃ v',U 16=some v'∧RowU base (xs ++ varB tn ++ [kd]) wz v':=hT.facts 9 (by decide) (dep hd 9 (by kernel_rfl)) (fun c e=>by first | (injection e with e;subst e;exact hl) | cases e)
    have e1:Act.eval ⟨over T U,dd⟩ (.tmp 16)=_:=eval_new (t:=T) (d:=dd) f9 (by show 16<T.size;omega)
    refine tb_yieldX (v:=v1) (w':=wz) hT ho hd rfl rfl (by decide) (fun j hj hji=>?_) ?_ hT.ext ⟨v1,rfl,hown⟩ (fun _ _ _ _ _ h=>h)
    · match j,hj,hji with
      | 0,_,_=>exact Or.inr (by decide)
      | 1,_,_=>exact Or.inr (by decide)
      | 2,_,_=>exact Or.inr (by decide)
      | 3,_,_=>exact Or.inr (by decide)
      | 4,_,_=>exact Or.inr (by decide)
      | 5,_,_=>exact Or.inr (by decide)
      | 6,_,_=>exact Or.inr (by decide)
      | 7,_,_=>exact Or.inr (by decide)
      | 8,_,_=>exact Or.inr (by decide)
      | 9,_,_=>exact Or.inr (by decide)
      | 10,_,hji=>exact absurd rfl hji
      | 11,_,_=>exact Or.inr (by decide)
      | 12,_,_=>exact Or.inr (by decide)
      | 13,_,_=>exact Or.inl rfl
      | j+14,hj,_=>exact absurd hj (by omega)
    · generalize Act.eval ⟨over T U,dd⟩=ev at *
      simp [execOp,e1,go_sem]
   | i+11,ho,_,_=>exact absurd ho (by simp)
 · intro U wx hex hout hfin
   obtain ⟨v1,hu0,hR1⟩:∃ v',U 0=some v'∧RowU base (xs ++ varB tn ++ [kd]) wx v':=hfin 10 (by decide) rfl
   obtain ⟨hblk,hsz,hnk⟩:wx.heap[w.heap.size]?=some (.cells #[.int .i64 (tn:Int),.int .i64 kd,.int .i64 n,.string s,.slice M.1 ks.length M.2] 52 (0,0))∧w.heap.size+1≤wx.heap.size∧NdK (w.alloc (.cells #[.int .i64 (tn:Int),.int .i64 kd,.int .i64 n,.string s,.slice M.1 ks.length M.2] 52)) wx:=hfin 11 (by decide) rfl
   have HB1:=Hi hblk
   have HR1:=Hi hR1
   have HX1:=Hi hex
   have HN1:=Hi hnk
   rw [over_list]
   simp (disch:=decide) only [overL,Nat.reduceAdd,hout,hu0,Option.getD_none,Option.getD_some]
   have h1:wx.cell? ⟨w.heap.size,1,none⟩=some (.int .i64 kd):=by rw [cell_of_row _ _ 1 _ _ _ hblk];rfl
   have HL1:Hid ((xs ++ varB tn ++ [kd]).length=xs.length+(varB tn).length+1):=Hi (by rw [List.length_append,List.length_append];rfl)
   have hbx:base≤wx.heap.size:=by omega
   clear hblk hR1 hex hnk hfin hout hu0 HX HR HV
   rcases HS.out with ⟨rfl,hn1,rfl⟩ | ⟨rfl,hs2,rfl⟩ | ⟨rfl,hd,hkl,hkf,rfl⟩
   · have h2:wx.cell? ⟨w.heap.size,2,none⟩=some (.int .i64 n):=by rw [cell_of_row _ _ 2 _ _ _ HB1.out];rfl
     obtain ⟨f,hf⟩:∃ f:Nat,foldZ n=f:=⟨(foldZ n).toNat,by have:=fold_nonneg (n:=n);omega⟩
     have hfl:f<18446744073709551616:=by have:=fold_lt hn1;omega
     have FO:=Hi (fold_any n hn1.1 hn1.2)
     rw [hf] at FO
     rw [hf,Int.toNat_natCast] at hn
     have HF:=Hi hf
     obtain ⟨hn2,hn3⟩:=hn1
     clear hf HS HK HIH
     go_wp2_with fail
     with_reducible refine (FO.out _).mono ?_
     rintro e w1 ⟨rfl,rfl⟩
     go_wp2_with fail
     with_reducible refine (av_any W0 base hB v1 (xs ++ varB tn ++ [1]) f hfl wx HX1.out hbx (by rw [HL1.out];omega) HR1.out).mono ?_
     rintro e w2 ⟨v2,rfl,hr2,hx2,hf2⟩
     have hnk:=(NdK.ext ((Ext.refl w).alloc _)).trans (HN1.out.trans (NdK.fra HR1.out hf2))
     clear hf2
     go_wp2
     go_ret
     exact ⟨v2,rfl,by rw [HF.out,Int.toNat_natCast];exact hr2,hx2,hnk⟩
   · rw [List.length_append,byB_length] at hn
     clear HS HK HIH
     go_wp2_with fail
     refine region_tb (by kernel_rfl) (by decide +kernel) (apE 55 w.heap.size v1) ⟨rfl,rfl,rfl⟩ 12 asD asC (asR wx w.heap.size base v1 (xs ++ varB tn ++ [2]) s #[.int .i64 (tn:Int),.int .i64 2,.int .i64 n,.string s,.slice M.1 ks.length M.2]) W0 HX1.out (fun i h1 h2=>by
      have h1':10≤i:=h1
      rcases (show i=10∨i=11 by omega) with rfl | rfl
      · exact ⟨(Ext.refl _).drew.blockAt HB1.out,Nat.le_trans hbx (Ext.refl _).drew.size,NdK.ext (Ext.refl _).drew⟩
      · exact own_ext HR1.out (Ext.refl _).drew) ?_ ?_
     · intro T dd l' U wz i o hE ho hl hd hT
       obtain ⟨t0,t3,tz⟩:=hE
       match i,ho,hl,hd with
       | 0,ho,hl,hd =>
        obtain rfl:=Option.some.inj ho
        have v0:=eval_old (d:=dd) (hT.out 0 (by decide)) (by omega) t0
        refine tb_pure (v:=v1) hT ho hd rfl rfl (by decide) (by decide) ?_ rfl
        generalize Act.eval ⟨over T U,dd⟩=ev at *
        simp [execOp,go_sem,v0]
       | 1,ho,hl,hd =>
        obtain rfl:=Option.some.inj ho
        have v0:=eval_old (d:=dd) (hT.out 3 (by decide)) (by omega) t3
        refine tb_pure (v:=.pointer (some ⟨w.heap.size,3,none⟩)) hT ho hd rfl rfl (by decide) (by decide) ?_ rfl
        generalize Act.eval ⟨over T U,dd⟩=ev at *
        simp [execOp,go_sem,v0]
       | 2,ho,hl,hd =>
        obtain rfl:=Option.some.inj ho
        have fv0:U 29=some (.pointer (some ⟨w.heap.size,3,none⟩)):=hT.facts 1 (by decide) (dep hd 1 (by kernel_rfl)) (fun c e=>by cases e)
        have v0:Act.eval ⟨over T U,dd⟩ (.tmp 29)=_:=eval_new (t:=T) (d:=dd) fv0 (by show 29<T.size;omega)
        have hblk:wz.heap[w.heap.size]?=some (.cells #[.int .i64 (tn:Int),.int .i64 2,.int .i64 n,.string s,.slice M.1 ks.length M.2] 52 (0,0))∧base≤wz.heap.size∧NdK wx wz:=hT.facts 10 (by decide) (hT.past 10 (Nat.le_refl 10)) (fun c e=>by cases e)
        have hc:wz.cell? ⟨w.heap.size,3,none⟩=some (.string s):=by rw [cell_of_row _ _ 3 _ _ _ hblk.1];rfl
        refine tb_pure (v:=.string s) hT ho hd rfl rfl (by decide) (by decide) ?_ rfl
        generalize Act.eval ⟨over T U,dd⟩=ev at *
        simp [execOp,go_sem,v0,hc]
       | 3,ho,hl,hd =>
        obtain rfl:=Option.some.inj ho
        have fv0:U 30=some (.string s):=hT.facts 2 (by decide) (dep hd 2 (by kernel_rfl)) (fun c e=>by cases e)
        have v0:Act.eval ⟨over T U,dd⟩ (.tmp 30)=_:=eval_new (t:=T) (d:=dd) fv0 (by show 30<T.size;omega)
        refine tb_pure (v:=.int .i64 (s.size:Int)) hT ho hd rfl rfl (by decide) (by decide) ?_ rfl
        generalize Act.eval ⟨over T U,dd⟩=ev at *
        simp [execOp,go_sem,v0]
       | 4,ho,hl,hd =>
        obtain rfl:=Option.some.inj ho
        have fv0:U 31=some (.int .i64 (s.size:Int)):=hT.facts 3 (by decide) (dep hd 3 (by kernel_rfl)) (fun c e=>by cases e)
        have v0:Act.eval ⟨over T U,dd⟩ (.tmp 31)=_:=eval_new (t:=T) (d:=dd) fv0 (by show 31<T.size;omega)
        have hw:IntKind.u64.wrap (s.size:Int)=(s.size:Int):=by rw [u64_wrap];omega
        refine tb_pure (v:=.int .u64 (s.size:Int)) hT ho hd rfl rfl (by decide) (by decide) ?_ rfl
        generalize Act.eval ⟨over T U,dd⟩=ev at *
        simp [execOp,go_sem,v0,hw]
       | 5,ho,hl,hd =>
        obtain rfl:=Option.some.inj ho
        have fv0:U 28=some (v1):=hT.facts 0 (by decide) (dep hd 0 (by kernel_rfl)) (fun c e=>by cases e)
        have v0:Act.eval ⟨over T U,dd⟩ (.tmp 28)=_:=eval_new (t:=T) (d:=dd) fv0 (by show 28<T.size;omega)
        have fv2:U 32=some (.int .u64 (s.size:Int)):=hT.facts 4 (by decide) (dep hd 4 (by kernel_rfl)) (fun c e=>by cases e)
        have v2:Act.eval ⟨over T U,dd⟩ (.tmp 32)=_:=eval_new (t:=T) (d:=dd) fv2 (by show 32<T.size;omega)
        have hblk:wz.heap[w.heap.size]?=some (.cells #[.int .i64 (tn:Int),.int .i64 2,.int .i64 n,.string s,.slice M.1 ks.length M.2] 52 (0,0))∧base≤wz.heap.size∧NdK wx wz:=hT.facts 10 (by decide) (hT.past 10 (Nat.le_refl 10)) (fun c e=>by cases e)
        have f11:RowU base (xs ++ varB tn ++ [2]) wz v1:=hT.facts 11 (by decide) (hT.past 11 (by decide)) (fun c e=>by injection e with e;subst e;exact hl)
        have l8:l' 8=false:=by
         cases h8:l' 8 with
         | false=>rfl
         | true =>
          have h5:=dep (hT.shut 8 _ rfl h8) 5 (by kernel_rfl)
          rw [hl] at h5;cases h5
        have l9:l' 9=false:=by
         cases h9:l' 9 with
         | false=>rfl
         | true =>
          have h8:=dep (hT.shut 9 _ rfl h9) 8 (by kernel_rfl)
          rw [l8] at h8;cases h8
        refine tb_callX (f:=95) (args:=#[v1,.int .u64 (s.size:Int)]) hT ho hd rfl rfl (by decide) (by decide) (exec_call2 rfl rfl v0 v2 EN.out) ?_
        refine (av_any W0 base hB v1 (xs ++ varB tn ++ [2]) s.size (by omega) wz hT.ext hblk.2.1 (by rw [HL1.out];omega) f11).mono ?_
        rintro e w' ⟨v',rfl,hr,hx,hfr⟩
        refine ⟨v',rfl,hx,⟨v',rfl,hr⟩,fun j hj hji hlj hcj hj2=>?_⟩
        have hj11:j≠11:=by rintro rfl;exact absurd rfl (hcj 5 rfl).1
        refine asR_fra _ _ _ _ _ _ _ j _ _ _ (NdK.fra f11 hfr) hji ?_ ?_ (by omega) hj2
        · rintro rfl;rw [l8] at hlj;cases hlj
        · rintro rfl;rw [l9] at hlj;cases hlj
       | 6,ho,hl,hd =>
        obtain rfl:=Option.some.inj ho
        have v0:=eval_old (d:=dd) (hT.out 3 (by decide)) (by omega) t3
        refine tb_pure (v:=.pointer (some ⟨w.heap.size,3,none⟩)) hT ho hd rfl rfl (by decide) (by decide) ?_ rfl
        generalize Act.eval ⟨over T U,dd⟩=ev at *
        simp [execOp,go_sem,v0]
       | 7,ho,hl,hd =>
        obtain rfl:=Option.some.inj ho
        have fv0:U 34=some (.pointer (some ⟨w.heap.size,3,none⟩)):=hT.facts 6 (by decide) (dep hd 6 (by kernel_rfl)) (fun c e=>by cases e)
        have v0:Act.eval ⟨over T U,dd⟩ (.tmp 34)=_:=eval_new (t:=T) (d:=dd) fv0 (by show 34<T.size;omega)
        have hblk:wz.heap[w.heap.size]?=some (.cells #[.int .i64 (tn:Int),.int .i64 2,.int .i64 n,.string s,.slice M.1 ks.length M.2] 52 (0,0))∧base≤wz.heap.size∧NdK wx wz:=hT.facts 10 (by decide) (hT.past 10 (Nat.le_refl 10)) (fun c e=>by cases e)
        have hc:wz.cell? ⟨w.heap.size,3,none⟩=some (.string s):=by rw [cell_of_row _ _ 3 _ _ _ hblk.1];rfl
        refine tb_pure (v:=.string s) hT ho hd rfl rfl (by decide) (by decide) ?_ rfl
        generalize Act.eval ⟨over T U,dd⟩=ev at *
        simp [execOp,go_sem,v0,hc]
       | 8,ho,hl,hd =>
        obtain rfl:=Option.some.inj ho
        obtain ⟨v2,f5,hown⟩:∃ v',U 33=some v'∧RowU base (xs ++ varB tn ++ [2] ++ varB s.size) wz v':=hT.facts 5 (by decide) (dep hd 5 (by kernel_rfl)) (fun c e=>by first | (injection e with e;subst e;exact hl) | cases e)
        have e1:Act.eval ⟨over T U,dd⟩ (.tmp 33)=_:=eval_new (t:=T) (d:=dd) f5 (by show 33<T.size;omega)
        have fv0:U 35=some (.string s):=hT.facts 7 (by decide) (dep hd 7 (by kernel_rfl)) (fun c e=>by cases e)
        have v0:Act.eval ⟨over T U,dd⟩ (.tmp 35)=_:=eval_new (t:=T) (d:=dd) fv0 (by show 35<T.size;omega)
        have hblk:wz.heap[w.heap.size]?=some (.cells #[.int .i64 (tn:Int),.int .i64 2,.int .i64 n,.string s,.slice M.1 ks.length M.2] 52 (0,0))∧base≤wz.heap.size∧NdK wx wz:=hT.facts 10 (by decide) (hT.past 10 (Nat.le_refl 10)) (fun c e=>by cases e)
        have hln:(xs ++ varB tn ++ [2] ++ varB s.size).length=xs.length+(varB tn).length+1+(varB s.size).length:=by rw [List.length_append,HL1.out]
        obtain ⟨v',w',hrun,hown2,hgr,-⟩:=Lib.run_append_own_string (P:=Tryz.prog) (w:=wz) base 24 9 24 5 i0 Tryz.underlying24 Tryz.underlying9 hi0 hz0 hz1 hz2 v2 _ _ hown s (by rw [hln];unfold maxLen;omega) (by rw [hln];omega) hblk.2.1
        have l9:l' 9=false:=by
         cases h9:l' 9 with
         | false=>rfl
         | true =>
          have h8:=dep (hT.shut 9 _ rfl h9) 8 (by kernel_rfl)
          rw [hl] at h8;cases h8
        have hR9:RowU base (xs ++ varB tn ++ [2] ++ varB s.size ++ byB s) w' v':=by
         unfold RowU
         rw [List.length_append,List.map_append,byB_length,← byB_cells]
         exact hown2
        refine tb_yield (v:=v') (w':=w') hT ho hd rfl rfl (by decide) (by decide) (exec_append2 rfl e1 v0 hrun) (hT.ext.grown hgr (fun q hq=>Nat.le_trans hB (own_ge hown q hq))) ⟨v',rfl,hR9⟩ ?_
        have hnk:=NdK.grown hown hgr
        intro j hj hji hlj hcj hR
        match j,hj,hR with
        | 0,_,hR=>exact hR
        | 1,_,hR=>exact hR
        | 2,_,hR=>exact hR
        | 3,_,hR=>exact hR
        | 4,_,hR=>exact hR
        | 5,_,_=>exact absurd rfl (hcj 8 rfl).1
        | 6,_,hR=>exact hR
        | 7,_,hR=>exact hR
        | 8,_,_=>exact absurd rfl hji
        | 9,_,_=>rw [l9] at hlj;cases hlj
        | 10,_,hR=>exact ⟨hnk.2 _ _ hR.1,Nat.le_trans hR.2.1 hnk.1,hR.2.2.trans hnk⟩
        | 11,_,_=>exact absurd (dep hd 5 (by kernel_rfl)) (by rw [(hcj 5 rfl).2];decide)
        | j+12,hj,_=>exact absurd hj (by omega)
       | 9,ho,hl,hd =>
        obtain rfl:=Option.some.inj ho
        obtain ⟨v2,f8,hown⟩:∃ v',U 36=some v'∧RowU base (xs ++ varB tn ++ [2] ++ varB s.size ++ byB s) wz v':=hT.facts 8 (by decide) (dep hd 8 (by kernel_rfl)) (fun c e=>by first | (injection e with e;subst e;exact hl) | cases e)
        have e1:Act.eval ⟨over T U,dd⟩ (.tmp 36)=_:=eval_new (t:=T) (d:=dd) f8 (by show 36<T.size;omega)
        refine tb_pure (v:=v2) hT ho hd rfl rfl (by decide) (by decide) ?_ ⟨v2,rfl,hown⟩
        generalize Act.eval ⟨over T U,dd⟩=ev at *
        simp [execOp,go_sem,e1]
       | i+10,ho,_,_=>exact absurd ho (by simp)
     · intro U2 wy hex hout hfin
       obtain ⟨v2,hu4,hr2⟩:∃ v',U2 4=some v'∧RowU base (xs ++ varB tn ++ [2] ++ varB s.size ++ byB s) wy v':=hfin 9 (by decide) rfl
       have hb6:wy.heap[w.heap.size]?=some (.cells #[.int .i64 (tn:Int),.int .i64 2,.int .i64 n,.string s,.slice M.1 ks.length M.2] 52 (0,0))∧base≤wy.heap.size∧NdK wx wy:=hfin 10 (by decide) rfl
       have hnk:=(NdK.ext ((Ext.refl w).alloc _)).trans (HN1.out.trans hb6.2.2)
       rw [over_list]
       simp (disch:=decide) only [overL,Nat.reduceAdd,hout,hu4,Option.getD_none,Option.getD_some]
       clear hfin hout hu4 hb6
       go_wp2
       go_ret
       refine ⟨v2,rfl,?_,hex,hnk⟩
       rw [← List.append_assoc]
       exact hr2
   · obtain ⟨d',rfl⟩:∃ d',d=d' + 1:=⟨d-1,by omega⟩
     have HA:=Hi (HIH.out d' rfl)
     have HKF:=Hi hkf
     have HSL:=Hi (sum_le (f:=encT (d' + 1)) ks)
     have h4:wx.cell? ⟨w.heap.size,4,none⟩=some (.slice M.1 ks.length M.2):=by rw [cell_of_row _ _ 4 _ _ _ HB1.out];rfl
     rw [List.length_append] at hn
     obtain ⟨XS,hXS⟩:∃ XS,xs ++ varB tn ++ [3] ++ varB ks.length=XS:=⟨_,rfl⟩
     have hXL:XS.length=xs.length+(varB tn).length+1+(varB ks.length).length:=by rw [← hXS,List.length_append,HL1.out]
     have HAV:=Hi (av_any W0 base hB v1 (xs ++ varB tn ++ [3]) ks.length (by omega) wx HX1.out hbx (by rw [HL1.out];omega) HR1.out)
     rw [hXS] at HAV
     have HXS:=Hi hXS
     obtain ⟨tot,htot⟩:∃ t,((ks.map (encT (d' + 1))).flatten).length=t:=⟨_,rfl⟩
     rw [htot] at hn
     have HT:=Hi htot
     obtain ⟨m,hm⟩:∃ m,ks.length=m:=⟨_,rfl⟩
     have HN:=Hi hm
     have hlen:XS.length+tot≤1048576:=by omega
     rw [hm] at h4 hkl HAV HB1
     clear hXS htot hXL hkf HS HIH HX1 HL1 hn
     go_wp2_with fail
     with_reducible refine HAV.out.mono ?_
     rintro e w2 ⟨v2,rfl,hr2,hx2,hf2⟩
     have HR2:=Hi hr2
     have HX2:=Hi hx2
     have HN2:=Hi (NdK.fra HR1.out hf2)
     have HB2:=Hi (HN2.out.2 _ _ HB1.out)
     have hb2:base≤w2.heap.size:=Nat.le_trans hbx hf2.1
     have h5:w2.cell? ⟨w.heap.size,4,none⟩=some (.slice M.1 m M.2):=by rw [cell_of_row _ _ 4 _ _ _ HB2.out];rfl
     have HZ:Hid (NdK w w2):=Hi ((NdK.ext ((Ext.refl w).alloc _)).trans (HN1.out.trans HN2.out))
     clear hr2 hx2 hf2 h4 h1 HN1 HN2 HB1 HR1 HAV hm
     go_wp2
     go_loopw [0,46] (fun z i wr=>∃ (k:Nat) (b:Value),k≤m∧b=z∧i=.int .i64 k∧Hid (RowU base (XS ++ ((ks.take k).map (encT (d' + 1))).flatten) wr b)∧Hid (Ext W0 wr)∧base≤wr.heap.size∧Hid (NdK w2 wr)) (fun _ i _=>m-(intOf i).toNat)
     case atStart=>exact ⟨0,_,by omega,rfl,rfl,Hi (by simpa using HR2.out),HX2,hb2,Hi ⟨Nat.le_refl _,fun _ _ h=>h⟩⟩
     case round =>
      obtain ⟨k,b,hk,rfl,rfl,HRk,HXk,hbk,HNk⟩:=hrel
      by_cases hlt:k<m
      · obtain ⟨y,hy⟩:∃ y,ks[k]?=some y:=⟨ks[k]'(by rw [HN.out];exact hlt),List.getElem?_eq_getElem _⟩
        obtain ⟨bb,off,N,hA,hbb,c0,c1,c2,c3,c4,hKN⟩:=HK.out.at_ hy
        have d0:=HXk.out.keep c0
        have d1:=HXk.out.keep c1
        have d2:=HXk.out.keep c2
        have d3:=HXk.out.keep c3
        have d4:=HXk.out.keep c4
        clear c0 c1 c2 c3 c4
        obtain ⟨MA,mc⟩:=M
        dsimp only at hA
        subst hA
        have hle:=HSL.out (k+1)
        have hnx:((ks.take (k+1)).map (encT (d' + 1))).flatten=((ks.take k).map (encT (d' + 1))).flatten ++ encT (d' + 1) y:=by
         rw [List.take_add_one,hy,List.map_append,List.flatten_append];simp
        rw [hnx,List.length_append,HT.out] at hle
        have HNX:=Hi hnx
        have HFX:=Hi (HKF.out y (List.mem_of_getElem? hy))
        have ki0:(0:Int)≤(k:Int):=by omega
        have ki1:(k:Int)<(m:Int):=by omega
        have hC:∀ wz,Ext wr wz→Calls Tryz.prog 56 #[b,.agg #[.int .i64 y.tag,.int .i64 y.kind,.int .i64 y.n,.string y.s,.slice N.1 y.kids.length N.2]] wz fun e w'=>∃ v',e=.returned v'∧RowU base (XS ++ ((ks.take (k+1)).map (encT (d' + 1))).flatten) w' v'∧Ext W0 w'∧NdK wz w':=fun wz hz=>by
         have:=HA.out y N W0 base b (XS ++ ((ks.take k).map (encT (d' + 1))).flatten) wz hB (HXk.out.trans hz) (Nat.le_trans hbk hz.size) hKN HFX.out (by rw [List.length_append];omega) (own_ext HRk.out hz)
         rw [HNX.out,← List.append_assoc]
         exact this
        have HC:=Hi hC
        clear hy hKN hnx hC hle
        go_wp2_with fail
        with_reducible refine (HC.out _ ((Ext.refl _).alloc _)).mono ?_
        rintro e w3 ⟨v3,rfl,hr3,hx3,hn3⟩
        have HR3:=Hi hr3
        have HX3:=Hi hx3
        have HN3:=Hi ((HNk.out.trans (NdK.ext ((Ext.refl _).alloc _))).trans hn3)
        have hb3:base≤w3.heap.size:=Nat.le_trans (Nat.le_trans hbk (((Ext.refl _).alloc _):Ext wr _).size) hn3.1
        clear hr3 hx3 hn3
        go_wp2
        go_roundw
        case rel=>exact ⟨k+1,_,by omega,rfl,by go_num,HR3,HX3,hb3,HN3⟩
        case measure=>simp [intOf];omega
      · obtain rfl:k=m:=by omega
        have hf:((ks.take k).map (encT (d' + 1))).flatten=(ks.map (encT (d' + 1))).flatten:=by rw [← HN.out,List.take_length]
        have HRR:=HRk.out
        rw [hf,← HXS.out,List.append_assoc _ (varB ks.length)] at HRR
        have HRR2:=Hi HRR
        have HZ2:=Hi (HZ.out.trans HNk.out)
        clear hf HRR
        go_wp2
        go_ret
        exact ⟨b,rfl,HRR2.out,HXk.out,HZ2.out⟩
theorem app_all (B:Nat):∀ d,AppAt B d:=by
 have step:∀ d,(∀ d',d=d' + 1→AppAt B d')→AppAt B d:=by
  intro d ih x M W0 base v xs w hB hX hb hK hF hn hR
  obtain ⟨tn,kd,n,s,ks,E,ht,rfl,hE,hS⟩:=fits_shape hF
  rw [hE] at hn ⊢
  have hl:(varB tn ++ ([kd] ++ E)).length=(varB tn).length+(1+E.length):=by simp only [List.length_append,List.length_cons,List.length_nil]
  rw [hl] at hn
  have:=app_core B d ih tn kd n s ks E M W0 base v xs w ht hS hB hX hb hK hn hR
  rw [List.append_assoc,List.append_assoc] at this
  exact this
 intro d
 induction d with
 | zero=>exact step 0 (fun d' h=>by omega)
 | succ d ih=>exact step (d+1) (fun d' h=>by
     obtain rfl:d=d':=by omega
     exact ih)
end Go.Proofs.YtnlenappjjlbjaaGreatDoor
namespace Go.Proofs.YtnlenappjjlbjaaGreatDoor
open Go.RowKit Go.Shelf

def WriAt (B d:Nat):Prop:=∀ (x:Nd) (M:Option Addr×Nat) (W0:World) (base:Nat) (v:Value) (xs:List Int) (w:World),W0.heap.size≤base→Ext W0 w→base≤w.heap.size→KidsAt B 0 d W0 M x.kids→Fits (d+1) x →
 xs.length+(encT (d+1) x).length≤1048576→RowU base xs w v →
 Calls Tryz.prog 68 #[v,nda x M] w fun e w'=>∃ v',e=.returned v'∧RowU base (xs ++ encT (d+1) x) w' v'∧Ext W0 w'∧NdK w w'
set_option maxRecDepth 100000 in
set_option maxHeartbeats 12800000 in
theorem wri_core (B d : Nat) (ih : ∀ d', d = d' + 1 → WriAt B d') (tn : Nat) (kd n : Int) (s : ByteArray) (ks : List Nd) (E : List Int) (M : Option Addr × Nat) (W0 : World) (base : Nat) (v : Value) (xs : List Int) (w : World)
    (ht:tn≤9999999) (hS:ShE d kd n s ks E) (hB:W0.heap.size≤base) (hX:Ext W0 w) (hb:base≤w.heap.size) (hK:KidsAt B 0 d W0 M ks) (hn:xs.length+((varB tn).length+(1+E.length))≤1048576) (hR:RowU base xs w v) :
    Calls Tryz.prog 68 #[v,nda (.mk tn kd n s ks) M] w fun e w'=>∃ v',e=.returned v'∧RowU base (xs ++ varB tn ++ [kd] ++ E) w' v'∧Ext W0 w'∧NdK w w':=by
 obtain ⟨i0,hi0,hz0,hz1,hz2⟩:=info_parts Tryz.infoU8
 have EN:=Hi (enters_of Tryz.func103 (by kernel_rfl) rfl)
 obtain ⟨hk1,hk3⟩:=hS.kind
 have HV:Hid (∀ k,v.ownBlock=some k→k<w.heap.size+1):=Hi (fun k e=>by have:=own_lt hR _ e;omega)
 have HX:=Hi hX
 have HR:=Hi hR
 have HS:=Hi hS
 have HK:=Hi hK
 have HIH:=Hi ih
 clear hX hR hS hK ih
 simp only [nda,Nd.tag,Nd.kind,Nd.n,Nd.s,Nd.kids]
 obtain ⟨A0,c0,rfl⟩:=own_form HR.out
 have hlv:decide (1048576<(xs.length:Int))=false:=by rw [decide_eq_false_iff_not];omega
 go_enter Tryz.func68,Tryz.ntmps68
 go_wp2_with fail
 refine region_tb (by kernel_rfl) (by decide +kernel) (apE 74 w.heap.size (.slice A0 xs.length c0)) ⟨rfl,rfl,rfl⟩ 14 wrD apC (apR (w.alloc (.cells #[.int .i64 (tn:Int),.int .i64 kd,.int .i64 n,.string s,.slice M.1 ks.length M.2] 52)) w.heap.size (w.heap.size+1) base (.slice A0 xs.length c0) xs tn kd #[.int .i64 (tn:Int),.int .i64 kd,.int .i64 n,.string s,.slice M.1 ks.length M.2]) W0 (HX.out.alloc _) (fun i h1 h2=>by
  have h1':11≤i:=h1
  rcases (show i=11∨i=12∨i=13 by omega) with rfl | rfl | rfl
  · exact ⟨heap_alloc_new _ _,by simp,NdK.ext (Ext.refl _).drew⟩
  · exact own_ext HR.out (((Ext.refl _).alloc _).drew)
  · rfl) ?_ ?_
 · intro T dd l' U wz i o hE ho hl hd hT
   obtain ⟨t0,t3,tz⟩:=hE
   match i,ho,hl,hd with
   | 0,ho,hl,hd =>
    obtain rfl:=Option.some.inj ho
    have l10:l' 10=false:=by
     cases h10:l' 10 with
     | false=>rfl
     | true =>
      have h9:=dep (hT.shut 10 _ rfl h10) 9 (by kernel_rfl)
      have h4:=dep (hT.shut 9 _ rfl h9) 4 (by kernel_rfl)
      have h0:=dep (hT.shut 4 _ rfl h4) 0 (by kernel_rfl)
      rw [hl] at h0;cases h0
    have hu:U 0=none:=hT.facts 13 (by decide) (hT.past 13 (by decide)) (fun c e=>by injection e with e;subst e;exact l10)
    have v0:=eval_old (d:=dd) hu (by omega) t0
    refine tb_pure (v:=.slice A0 xs.length c0) hT ho hd rfl rfl (by decide) (by decide) ?_ rfl
    generalize Act.eval ⟨over T U,dd⟩=ev at *
    simp [execOp,go_sem,v0]
   | 1,ho,hl,hd =>
    obtain rfl:=Option.some.inj ho
    have v0:=eval_old (d:=dd) (hT.out 3 (by decide)) (by omega) t3
    refine tb_pure (v:=.pointer (some ⟨w.heap.size,0,none⟩)) hT ho hd rfl rfl (by decide) (by decide) ?_ rfl
    generalize Act.eval ⟨over T U,dd⟩=ev at *
    simp [execOp,go_sem,v0]
   | 2,ho,hl,hd =>
    obtain rfl:=Option.some.inj ho
    have fv0:U 12=some (.pointer (some ⟨w.heap.size,0,none⟩)):=hT.facts 1 (by decide) (dep hd 1 (by kernel_rfl)) (fun c e=>by cases e)
    have v0:Act.eval ⟨over T U,dd⟩ (.tmp 12)=_:=eval_new (t:=T) (d:=dd) fv0 (by show 12<T.size;omega)
    have hblk:wz.heap[w.heap.size]?=some (.cells #[.int .i64 (tn:Int),.int .i64 kd,.int .i64 n,.string s,.slice M.1 ks.length M.2] 52 (0,0))∧w.heap.size+1≤wz.heap.size∧NdK (w.alloc (.cells #[.int .i64 (tn:Int),.int .i64 kd,.int .i64 n,.string s,.slice M.1 ks.length M.2] 52)) wz:=hT.facts 11 (by decide) (hT.past 11 (Nat.le_refl 11)) (fun c e=>by cases e)
    have hc:wz.cell? ⟨w.heap.size,0,none⟩=some (.int .i64 (tn:Int)):=by rw [cell_of_row _ _ 0 _ _ _ hblk.1];rfl
    refine tb_pure (v:=.int .i64 (tn:Int)) hT ho hd rfl rfl (by decide) (by decide) ?_ rfl
    generalize Act.eval ⟨over T U,dd⟩=ev at *
    simp [execOp,go_sem,v0,hc]
   | 3,ho,hl,hd =>
    obtain rfl:=Option.some.inj ho
    have fv0:U 13=some (.int .i64 (tn:Int)):=hT.facts 2 (by decide) (dep hd 2 (by kernel_rfl)) (fun c e=>by cases e)
    have v0:Act.eval ⟨over T U,dd⟩ (.tmp 13)=_:=eval_new (t:=T) (d:=dd) fv0 (by show 13<T.size;omega)
    have hw:IntKind.u64.wrap (tn:Int)=(tn:Int):=by rw [u64_wrap];omega
    refine tb_pure (v:=.int .u64 (tn:Int)) hT ho hd rfl rfl (by decide) (by decide) ?_ rfl
    generalize Act.eval ⟨over T U,dd⟩=ev at *
    simp [execOp,go_sem,v0,hw]
   | 4,ho,hl,hd =>
    obtain rfl:=Option.some.inj ho
    have fv0:U 11=some (.slice A0 xs.length c0):=hT.facts 0 (by decide) (dep hd 0 (by kernel_rfl)) (fun c e=>by cases e)
    have v0:Act.eval ⟨over T U,dd⟩ (.tmp 11)=_:=eval_new (t:=T) (d:=dd) fv0 (by show 11<T.size;omega)
    have fv1:U 14=some (.int .u64 (tn:Int)):=hT.facts 3 (by decide) (dep hd 3 (by kernel_rfl)) (fun c e=>by cases e)
    have v1:Act.eval ⟨over T U,dd⟩ (.tmp 14)=_:=eval_new (t:=T) (d:=dd) fv1 (by show 14<T.size;omega)
    have hblk:wz.heap[w.heap.size]?=some (.cells #[.int .i64 (tn:Int),.int .i64 kd,.int .i64 n,.string s,.slice M.1 ks.length M.2] 52 (0,0))∧w.heap.size+1≤wz.heap.size∧NdK (w.alloc (.cells #[.int .i64 (tn:Int),.int .i64 kd,.int .i64 n,.string s,.slice M.1 ks.length M.2] 52)) wz:=hT.facts 11 (by decide) (hT.past 11 (Nat.le_refl 11)) (fun c e=>by cases e)
    have f12:RowU base xs wz (.slice A0 xs.length c0):=hT.facts 12 (by decide) (hT.past 12 (by decide)) (fun c e=>by injection e with e;subst e;exact hl)
    have l9:l' 9=false:=by
     cases h9:l' 9 with
     | false=>rfl
     | true =>
      have h4:=dep (hT.shut 9 _ rfl h9) 4 (by kernel_rfl)
      rw [hl] at h4;cases h4
    have l10:l' 10=false:=by
     cases h10:l' 10 with
     | false=>rfl
     | true =>
      have h9:=dep (hT.shut 10 _ rfl h10) 9 (by kernel_rfl)
      rw [l9] at h9;cases h9
    refine tb_callX (f:=103) (args:=#[.slice A0 xs.length c0,.int .u64 (tn:Int)]) hT ho hd rfl rfl (by decide) (by decide) (exec_call2 rfl rfl v0 v1 EN.out) ?_
    refine (rav_any W0 base hB (.slice A0 xs.length c0) xs tn (by omega) wz hT.ext (by omega) (by omega) f12).mono ?_
    rintro e w' ⟨v',rfl,hr,hx,hfr⟩
    refine ⟨v',rfl,hx,⟨v',rfl,hr⟩,fun j hj hji hlj hcj hj2=>?_⟩
    refine apR_fra _ _ _ _ _ _ _ _ _ (fun k hk=>HV.out k hk) j _ _ _ v' hfr (NdK.fra f12 hfr) hji ?_ ?_ ?_ hj2
    · rintro rfl;rw [l9] at hlj;cases hlj
    · rintro rfl;rw [l10] at hlj;cases hlj
    · rintro rfl;exact absurd rfl (hcj 4 rfl).1
   | 5,ho,hl,hd =>
    obtain rfl:=Option.some.inj ho
    have v0:=eval_old (d:=dd) (hT.out 3 (by decide)) (by omega) t3
    refine tb_pure (v:=.pointer (some ⟨w.heap.size,1,none⟩)) hT ho hd rfl rfl (by decide) (by decide) ?_ rfl
    generalize Act.eval ⟨over T U,dd⟩=ev at *
    simp [execOp,go_sem,v0]
   | 6,ho,hl,hd =>
    obtain rfl:=Option.some.inj ho
    have fv0:U 16=some (.pointer (some ⟨w.heap.size,1,none⟩)):=hT.facts 5 (by decide) (dep hd 5 (by kernel_rfl)) (fun c e=>by cases e)
    have v0:Act.eval ⟨over T U,dd⟩ (.tmp 16)=_:=eval_new (t:=T) (d:=dd) fv0 (by show 16<T.size;omega)
    have hblk:wz.heap[w.heap.size]?=some (.cells #[.int .i64 (tn:Int),.int .i64 kd,.int .i64 n,.string s,.slice M.1 ks.length M.2] 52 (0,0))∧w.heap.size+1≤wz.heap.size∧NdK (w.alloc (.cells #[.int .i64 (tn:Int),.int .i64 kd,.int .i64 n,.string s,.slice M.1 ks.length M.2] 52)) wz:=hT.facts 11 (by decide) (hT.past 11 (Nat.le_refl 11)) (fun c e=>by cases e)
    have hc:wz.cell? ⟨w.heap.size,1,none⟩=some (.int .i64 kd):=by rw [cell_of_row _ _ 1 _ _ _ hblk.1];rfl
    refine tb_pure (v:=.int .i64 kd) hT ho hd rfl rfl (by decide) (by decide) ?_ rfl
    generalize Act.eval ⟨over T U,dd⟩=ev at *
    simp [execOp,go_sem,v0,hc]
   | 7,ho,hl,hd =>
    obtain rfl:=Option.some.inj ho
    have fv0:U 17=some (.int .i64 kd):=hT.facts 6 (by decide) (dep hd 6 (by kernel_rfl)) (fun c e=>by cases e)
    have v0:Act.eval ⟨over T U,dd⟩ (.tmp 17)=_:=eval_new (t:=T) (d:=dd) fv0 (by show 17<T.size;omega)
    have hw:IntKind.u8.wrap kd=kd:=by simp only [IntKind.wrap,IntKind.bits,IntKind.signed];simp;omega
    refine tb_pure (v:=.int .u8 kd) hT ho hd rfl rfl (by decide) (by decide) ?_ rfl
    generalize Act.eval ⟨over T U,dd⟩=ev at *
    simp [execOp,go_sem,v0,hw]
   | 8,ho,hl,hd =>
    obtain rfl:=Option.some.inj ho
    have fv0:U 18=some (.int .u8 kd):=hT.facts 7 (by decide) (dep hd 7 (by kernel_rfl)) (fun c e=>by cases e)
    have v0:Act.eval ⟨over T U,dd⟩ (.tmp 18)=_:=eval_new (t:=T) (d:=dd) fv0 (by show 18<T.size;omega)
    have hblk:wz.heap[w.heap.size]?=some (.cells #[.int .i64 (tn:Int),.int .i64 kd,.int .i64 n,.string s,.slice M.1 ks.length M.2] 52 (0,0))∧w.heap.size+1≤wz.heap.size∧NdK (w.alloc (.cells #[.int .i64 (tn:Int),.int .i64 kd,.int .i64 n,.string s,.slice M.1 ks.length M.2] 52)) wz:=hT.facts 11 (by decide) (hT.past 11 (Nat.le_refl 11)) (fun c e=>by cases e)
    refine tb_ext (v:=.slice (some ⟨wz.heap.size,0,none⟩) 1 1) (w':=wz.alloc (.cells #[.int .u8 kd] 5)) (apR_ext (w.alloc (.cells #[.int .i64 (tn:Int),.int .i64 kd,.int .i64 n,.string s,.slice M.1 ks.length M.2] 52)) w.heap.size (w.heap.size+1) base (.slice A0 xs.length c0) xs tn kd #[.int .i64 (tn:Int),.int .i64 kd,.int .i64 n,.string s,.slice M.1 ks.length M.2]) hT ho hd rfl rfl (by decide) (by decide) ?_ ((Ext.refl _).alloc _) ⟨wz.heap.size,rfl,hblk.2.1,by simp,by rw [World.cell?_alloc_new];rfl⟩
    generalize Act.eval ⟨over T U,dd⟩=ev at *
    simp [execOp,v0,go_sem]
   | 9,ho,hl,hd =>
    obtain rfl:=Option.some.inj ho
    obtain ⟨v1,f4,hown⟩:∃ v',U 15=some v'∧RowU base (xs ++ varB tn) wz v':=hT.facts 4 (by decide) (dep hd 4 (by kernel_rfl)) (fun c e=>by first | (injection e with e;subst e;exact hl) | cases e)
    have e1:Act.eval ⟨over T U,dd⟩ (.tmp 15)=_:=eval_new (t:=T) (d:=dd) f4 (by show 15<T.size;omega)
    obtain ⟨q,f8,hq,hq2,hc⟩:∃ q,U 19=some (.slice (some ⟨q,0,none⟩) 1 1)∧w.heap.size+1≤q∧q<wz.heap.size∧wz.cell? ⟨q,0,none⟩=some (.int .u8 kd):=hT.facts 8 (by decide) (dep hd 8 (by kernel_rfl)) (fun c e=>by injection e with e;subst e;exact hl)
    have e2:Act.eval ⟨over T U,dd⟩ (.tmp 19)=_:=eval_new (t:=T) (d:=dd) f8 (by show 19<T.size;omega)
    have hblk:wz.heap[w.heap.size]?=some (.cells #[.int .i64 (tn:Int),.int .i64 kd,.int .i64 n,.string s,.slice M.1 ks.length M.2] 52 (0,0))∧w.heap.size+1≤wz.heap.size∧NdK (w.alloc (.cells #[.int .i64 (tn:Int),.int .i64 kd,.int .i64 n,.string s,.slice M.1 ks.length M.2] 52)) wz:=hT.facts 11 (by decide) (hT.past 11 (Nat.le_refl 11)) (fun c e=>by cases e)
    have hsl:Sl wz 1 (some ⟨q,0,none⟩) [[.int .u8 kd]]:=by
     refine Or.inr ⟨q,0,rfl,hq2,fun i cs hi j u hu=>?_⟩
     match i,hi with
     | 0,hi =>
      simp at hi
      subst hi
      match j,hu with
      | 0,hu=>simp at hu;subst hu;exact hc
    have hln:(xs ++ varB tn).length=xs.length+(varB tn).length:=List.length_append
    obtain ⟨v',w',hrun,hown2,hgr,-⟩:=run_append_sl (P:=Tryz.prog) wz base 24 24 5 i0 (.int .u8 0) 1 1 Tryz.underlying24 hi0 hz0 hz1 hz2 rfl (by decide) v1 _ _ hown (some ⟨q,0,none⟩) 1 [[.int .u8 kd]] hsl (by simp) (by simp [Value.oneCell']) (by rw [hln];show _+1≤maxLen;unfold maxLen;omega) (by rw [hln];show (_+1)*1≤_;omega) (by omega)
    have l10:l' 10=false:=by
     cases h10:l' 10 with
     | false=>rfl
     | true =>
      have h9:=dep (hT.shut 10 _ rfl h10) 9 (by kernel_rfl)
      rw [hl] at h9;cases h9
    have hR9:RowU base (xs ++ varB tn ++ [kd]) w' v':=by
     unfold RowU
     rw [List.length_append,List.map_append]
     exact hown2
    refine tb_yield (v:=v') (w':=w') hT ho hd rfl rfl (by decide) (by decide) (exec_append rfl e1 e2 hrun) (hT.ext.grown hgr (fun q hq=>Nat.le_trans hB (own_ge hown q hq))) ⟨v',rfl,hR9⟩ ?_
    have hnk:=NdK.grown hown hgr
    intro j hj hji hlj hcj hR
    match j,hj,hR with
    | 0,_,hR=>exact hR
    | 1,_,hR=>exact hR
    | 2,_,hR=>exact hR
    | 3,_,hR=>exact hR
    | 4,_,_=>exact absurd rfl (hcj 9 rfl).1
    | 5,_,hR=>exact hR
    | 6,_,hR=>exact hR
    | 7,_,hR=>exact hR
    | 8,_,_=>exact absurd rfl (hcj 9 rfl).1
    | 9,_,_=>exact absurd rfl hji
    | 10,_,_=>rw [l10] at hlj;cases hlj
    | 11,_,hR=>exact ⟨hnk.2 _ _ hR.1,Nat.le_trans hR.2.1 hnk.1,hR.2.2.trans hnk⟩
    | 12,_,_=>exact absurd (dep hd 4 (by kernel_rfl)) (by rw [(hcj 4 rfl).2];decide)
    | 13,_,hR=>exact hR
    | j+14,hj,_=>exact absurd hj (by omega)
   | 10,ho,hl,hd =>
    obtain rfl:=Option.some.inj ho
    obtain ⟨v1,f9,hown⟩:∃ v',U 20=some v'∧RowU base (xs ++ varB tn ++ [kd]) wz v':=hT.facts 9 (by decide) (dep hd 9 (by kernel_rfl)) (fun c e=>by first | (injection e with e;subst e;exact hl) | cases e)
    have e1:Act.eval ⟨over T U,dd⟩ (.tmp 20)=_:=eval_new (t:=T) (d:=dd) f9 (by show 20<T.size;omega)
    refine tb_yieldX (v:=v1) (w':=wz) hT ho hd rfl rfl (by decide) (fun j hj hji=>?_) ?_ hT.ext ⟨v1,rfl,hown⟩ (fun _ _ _ _ _ h=>h)
    · match j,hj,hji with
      | 0,_,_=>exact Or.inr (by decide)
      | 1,_,_=>exact Or.inr (by decide)
      | 2,_,_=>exact Or.inr (by decide)
      | 3,_,_=>exact Or.inr (by decide)
      | 4,_,_=>exact Or.inr (by decide)
      | 5,_,_=>exact Or.inr (by decide)
      | 6,_,_=>exact Or.inr (by decide)
      | 7,_,_=>exact Or.inr (by decide)
      | 8,_,_=>exact Or.inr (by decide)
      | 9,_,_=>exact Or.inr (by decide)
      | 10,_,hji=>exact absurd rfl hji
      | 11,_,_=>exact Or.inr (by decide)
      | 12,_,_=>exact Or.inr (by decide)
      | 13,_,_=>exact Or.inl rfl
      | j+14,hj,_=>exact absurd hj (by omega)
    · generalize Act.eval ⟨over T U,dd⟩=ev at *
      simp [execOp,e1,go_sem]
   | i+11,ho,_,_=>exact absurd ho (by simp)
 · intro U wx hex hout hfin
   obtain ⟨v1,hu0,hR1⟩:∃ v',U 0=some v'∧RowU base (xs ++ varB tn ++ [kd]) wx v':=hfin 10 (by decide) rfl
   obtain ⟨hblk,hsz,hnk⟩:wx.heap[w.heap.size]?=some (.cells #[.int .i64 (tn:Int),.int .i64 kd,.int .i64 n,.string s,.slice M.1 ks.length M.2] 52 (0,0))∧w.heap.size+1≤wx.heap.size∧NdK (w.alloc (.cells #[.int .i64 (tn:Int),.int .i64 kd,.int .i64 n,.string s,.slice M.1 ks.length M.2] 52)) wx:=hfin 11 (by decide) rfl
   have HB1:=Hi hblk
   have HR1:=Hi hR1
   have HX1:=Hi hex
   have HN1:=Hi hnk
   rw [over_list]
   simp (disch:=decide) only [overL,Nat.reduceAdd,hout,hu0,Option.getD_none,Option.getD_some]
   have h1:wx.cell? ⟨w.heap.size,1,none⟩=some (.int .i64 kd):=by rw [cell_of_row _ _ 1 _ _ _ hblk];rfl
   have HL1:Hid ((xs ++ varB tn ++ [kd]).length=xs.length+(varB tn).length+1):=Hi (by rw [List.length_append,List.length_append];rfl)
   have hbx:base≤wx.heap.size:=by omega
   clear hblk hR1 hex hnk hfin hout hu0 HX HR HV
   rcases HS.out with ⟨rfl,hn1,rfl⟩ | ⟨rfl,hs2,rfl⟩ | ⟨rfl,hd,hkl,hkf,rfl⟩
   · have h2:wx.cell? ⟨w.heap.size,2,none⟩=some (.int .i64 n):=by rw [cell_of_row _ _ 2 _ _ _ HB1.out];rfl
     obtain ⟨f,hf⟩:∃ f:Nat,foldZ n=f:=⟨(foldZ n).toNat,by have:=fold_nonneg (n:=n);omega⟩
     have hfl:f<18446744073709551616:=by have:=fold_lt hn1;omega
     rw [hf,Int.toNat_natCast] at hn
     have HF:=Hi hf
     obtain ⟨hn2,hn3⟩:=hn1
     have HK1:=Hi (rav_any W0 base hB v1 (xs ++ varB tn ++ [1]) f hfl wx HX1.out hbx (by rw [HL1.out];omega) HR1.out)
     by_cases hn0:0≤n
     · have hz:2*n=(f:Int):=by unfold foldZ at hf;rw [if_pos hn0] at hf;exact hf
       rw [← hz] at HK1
       have hd0:decide (n<0)=false:=by rw [decide_eq_false_iff_not];omega
       clear hf HS HK HIH hz
       go_wp2_with fail
       with_reducible refine HK1.out.mono ?_
       rintro e w2 ⟨v2,rfl,hr2,hx2,hf2⟩
       have hnk:=(NdK.ext ((Ext.refl w).alloc _)).trans (HN1.out.trans (NdK.fra HR1.out hf2))
       clear hf2
       go_wp2
       go_ret
       exact ⟨v2,rfl,by rw [HF.out,Int.toNat_natCast];exact hr2,hx2,hnk⟩
     · have hz:2 * -(n+1)+1=(f:Int):=by unfold foldZ at hf;rw [if_neg hn0] at hf;omega
       rw [← hz] at HK1
       have hd0:decide (n<0)=true:=by rw [decide_eq_true_eq];omega
       clear hf HS HK HIH hz
       go_wp2_with fail
       with_reducible refine HK1.out.mono ?_
       rintro e w2 ⟨v2,rfl,hr2,hx2,hf2⟩
       have hnk:=(NdK.ext ((Ext.refl w).alloc _)).trans (HN1.out.trans (NdK.fra HR1.out hf2))
       clear hf2
       go_wp2
       go_ret
       exact ⟨v2,rfl,by rw [HF.out,Int.toNat_natCast];exact hr2,hx2,hnk⟩
   · rw [List.length_append,byB_length] at hn
     clear HS HK HIH
     go_wp2_with fail
     refine region_tb (by kernel_rfl) (by decide +kernel) (apE 74 w.heap.size v1) ⟨rfl,rfl,rfl⟩ 12 wsD asC (asR wx w.heap.size base v1 (xs ++ varB tn ++ [2]) s #[.int .i64 (tn:Int),.int .i64 2,.int .i64 n,.string s,.slice M.1 ks.length M.2]) W0 HX1.out (fun i h1 h2=>by
      have h1':10≤i:=h1
      rcases (show i=10∨i=11 by omega) with rfl | rfl
      · exact ⟨(Ext.refl _).drew.blockAt HB1.out,Nat.le_trans hbx (Ext.refl _).drew.size,NdK.ext (Ext.refl _).drew⟩
      · exact own_ext HR1.out (Ext.refl _).drew) ?_ ?_
     · intro T dd l' U wz i o hE ho hl hd hT
       obtain ⟨t0,t3,tz⟩:=hE
       match i,ho,hl,hd with
       | 0,ho,hl,hd =>
        obtain rfl:=Option.some.inj ho
        have v0:=eval_old (d:=dd) (hT.out 0 (by decide)) (by omega) t0
        refine tb_pure (v:=v1) hT ho hd rfl rfl (by decide) (by decide) ?_ rfl
        generalize Act.eval ⟨over T U,dd⟩=ev at *
        simp [execOp,go_sem,v0]
       | 1,ho,hl,hd =>
        obtain rfl:=Option.some.inj ho
        have v0:=eval_old (d:=dd) (hT.out 3 (by decide)) (by omega) t3
        refine tb_pure (v:=.pointer (some ⟨w.heap.size,3,none⟩)) hT ho hd rfl rfl (by decide) (by decide) ?_ rfl
        generalize Act.eval ⟨over T U,dd⟩=ev at *
        simp [execOp,go_sem,v0]
       | 2,ho,hl,hd =>
        obtain rfl:=Option.some.inj ho
        have fv0:U 45=some (.pointer (some ⟨w.heap.size,3,none⟩)):=hT.facts 1 (by decide) (dep hd 1 (by kernel_rfl)) (fun c e=>by cases e)
        have v0:Act.eval ⟨over T U,dd⟩ (.tmp 45)=_:=eval_new (t:=T) (d:=dd) fv0 (by show 45<T.size;omega)
        have hblk:wz.heap[w.heap.size]?=some (.cells #[.int .i64 (tn:Int),.int .i64 2,.int .i64 n,.string s,.slice M.1 ks.length M.2] 52 (0,0))∧base≤wz.heap.size∧NdK wx wz:=hT.facts 10 (by decide) (hT.past 10 (Nat.le_refl 10)) (fun c e=>by cases e)
        have hc:wz.cell? ⟨w.heap.size,3,none⟩=some (.string s):=by rw [cell_of_row _ _ 3 _ _ _ hblk.1];rfl
        refine tb_pure (v:=.string s) hT ho hd rfl rfl (by decide) (by decide) ?_ rfl
        generalize Act.eval ⟨over T U,dd⟩=ev at *
        simp [execOp,go_sem,v0,hc]
       | 3,ho,hl,hd =>
        obtain rfl:=Option.some.inj ho
        have fv0:U 46=some (.string s):=hT.facts 2 (by decide) (dep hd 2 (by kernel_rfl)) (fun c e=>by cases e)
        have v0:Act.eval ⟨over T U,dd⟩ (.tmp 46)=_:=eval_new (t:=T) (d:=dd) fv0 (by show 46<T.size;omega)
        refine tb_pure (v:=.int .i64 (s.size:Int)) hT ho hd rfl rfl (by decide) (by decide) ?_ rfl
        generalize Act.eval ⟨over T U,dd⟩=ev at *
        simp [execOp,go_sem,v0]
       | 4,ho,hl,hd =>
        obtain rfl:=Option.some.inj ho
        have fv0:U 47=some (.int .i64 (s.size:Int)):=hT.facts 3 (by decide) (dep hd 3 (by kernel_rfl)) (fun c e=>by cases e)
        have v0:Act.eval ⟨over T U,dd⟩ (.tmp 47)=_:=eval_new (t:=T) (d:=dd) fv0 (by show 47<T.size;omega)
        have hw:IntKind.u64.wrap (s.size:Int)=(s.size:Int):=by rw [u64_wrap];omega
        refine tb_pure (v:=.int .u64 (s.size:Int)) hT ho hd rfl rfl (by decide) (by decide) ?_ rfl
        generalize Act.eval ⟨over T U,dd⟩=ev at *
        simp [execOp,go_sem,v0,hw]
       | 5,ho,hl,hd =>
        obtain rfl:=Option.some.inj ho
        have fv0:U 44=some (v1):=hT.facts 0 (by decide) (dep hd 0 (by kernel_rfl)) (fun c e=>by cases e)
        have v0:Act.eval ⟨over T U,dd⟩ (.tmp 44)=_:=eval_new (t:=T) (d:=dd) fv0 (by show 44<T.size;omega)
        have fv2:U 48=some (.int .u64 (s.size:Int)):=hT.facts 4 (by decide) (dep hd 4 (by kernel_rfl)) (fun c e=>by cases e)
        have v2:Act.eval ⟨over T U,dd⟩ (.tmp 48)=_:=eval_new (t:=T) (d:=dd) fv2 (by show 48<T.size;omega)
        have hblk:wz.heap[w.heap.size]?=some (.cells #[.int .i64 (tn:Int),.int .i64 2,.int .i64 n,.string s,.slice M.1 ks.length M.2] 52 (0,0))∧base≤wz.heap.size∧NdK wx wz:=hT.facts 10 (by decide) (hT.past 10 (Nat.le_refl 10)) (fun c e=>by cases e)
        have f11:RowU base (xs ++ varB tn ++ [2]) wz v1:=hT.facts 11 (by decide) (hT.past 11 (by decide)) (fun c e=>by injection e with e;subst e;exact hl)
        have l8:l' 8=false:=by
         cases h8:l' 8 with
         | false=>rfl
         | true =>
          have h5:=dep (hT.shut 8 _ rfl h8) 5 (by kernel_rfl)
          rw [hl] at h5;cases h5
        have l9:l' 9=false:=by
         cases h9:l' 9 with
         | false=>rfl
         | true =>
          have h8:=dep (hT.shut 9 _ rfl h9) 8 (by kernel_rfl)
          rw [l8] at h8;cases h8
        refine tb_callX (f:=103) (args:=#[v1,.int .u64 (s.size:Int)]) hT ho hd rfl rfl (by decide) (by decide) (exec_call2 rfl rfl v0 v2 EN.out) ?_
        refine (rav_any W0 base hB v1 (xs ++ varB tn ++ [2]) s.size (by omega) wz hT.ext hblk.2.1 (by rw [HL1.out];omega) f11).mono ?_
        rintro e w' ⟨v',rfl,hr,hx,hfr⟩
        refine ⟨v',rfl,hx,⟨v',rfl,hr⟩,fun j hj hji hlj hcj hj2=>?_⟩
        have hj11:j≠11:=by rintro rfl;exact absurd rfl (hcj 5 rfl).1
        refine asR_fra _ _ _ _ _ _ _ j _ _ _ (NdK.fra f11 hfr) hji ?_ ?_ (by omega) hj2
        · rintro rfl;rw [l8] at hlj;cases hlj
        · rintro rfl;rw [l9] at hlj;cases hlj
       | 6,ho,hl,hd =>
        obtain rfl:=Option.some.inj ho
        have v0:=eval_old (d:=dd) (hT.out 3 (by decide)) (by omega) t3
        refine tb_pure (v:=.pointer (some ⟨w.heap.size,3,none⟩)) hT ho hd rfl rfl (by decide) (by decide) ?_ rfl
        generalize Act.eval ⟨over T U,dd⟩=ev at *
        simp [execOp,go_sem,v0]
       | 7,ho,hl,hd =>
        obtain rfl:=Option.some.inj ho
        have fv0:U 50=some (.pointer (some ⟨w.heap.size,3,none⟩)):=hT.facts 6 (by decide) (dep hd 6 (by kernel_rfl)) (fun c e=>by cases e)
        have v0:Act.eval ⟨over T U,dd⟩ (.tmp 50)=_:=eval_new (t:=T) (d:=dd) fv0 (by show 50<T.size;omega)
        have hblk:wz.heap[w.heap.size]?=some (.cells #[.int .i64 (tn:Int),.int .i64 2,.int .i64 n,.string s,.slice M.1 ks.length M.2] 52 (0,0))∧base≤wz.heap.size∧NdK wx wz:=hT.facts 10 (by decide) (hT.past 10 (Nat.le_refl 10)) (fun c e=>by cases e)
        have hc:wz.cell? ⟨w.heap.size,3,none⟩=some (.string s):=by rw [cell_of_row _ _ 3 _ _ _ hblk.1];rfl
        refine tb_pure (v:=.string s) hT ho hd rfl rfl (by decide) (by decide) ?_ rfl
        generalize Act.eval ⟨over T U,dd⟩=ev at *
        simp [execOp,go_sem,v0,hc]
       | 8,ho,hl,hd =>
        obtain rfl:=Option.some.inj ho
        obtain ⟨v2,f5,hown⟩:∃ v',U 49=some v'∧RowU base (xs ++ varB tn ++ [2] ++ varB s.size) wz v':=hT.facts 5 (by decide) (dep hd 5 (by kernel_rfl)) (fun c e=>by first | (injection e with e;subst e;exact hl) | cases e)
        have e1:Act.eval ⟨over T U,dd⟩ (.tmp 49)=_:=eval_new (t:=T) (d:=dd) f5 (by show 49<T.size;omega)
        have fv0:U 51=some (.string s):=hT.facts 7 (by decide) (dep hd 7 (by kernel_rfl)) (fun c e=>by cases e)
        have v0:Act.eval ⟨over T U,dd⟩ (.tmp 51)=_:=eval_new (t:=T) (d:=dd) fv0 (by show 51<T.size;omega)
        have hblk:wz.heap[w.heap.size]?=some (.cells #[.int .i64 (tn:Int),.int .i64 2,.int .i64 n,.string s,.slice M.1 ks.length M.2] 52 (0,0))∧base≤wz.heap.size∧NdK wx wz:=hT.facts 10 (by decide) (hT.past 10 (Nat.le_refl 10)) (fun c e=>by cases e)
        have hln:(xs ++ varB tn ++ [2] ++ varB s.size).length=xs.length+(varB tn).length+1+(varB s.size).length:=by rw [List.length_append,HL1.out]
        obtain ⟨v',w',hrun,hown2,hgr,-⟩:=Lib.run_append_own_string (P:=Tryz.prog) (w:=wz) base 24 9 24 5 i0 Tryz.underlying24 Tryz.underlying9 hi0 hz0 hz1 hz2 v2 _ _ hown s (by rw [hln];unfold maxLen;omega) (by rw [hln];omega) hblk.2.1
        have l9:l' 9=false:=by
         cases h9:l' 9 with
         | false=>rfl
         | true =>
          have h8:=dep (hT.shut 9 _ rfl h9) 8 (by kernel_rfl)
          rw [hl] at h8;cases h8
        have hR9:RowU base (xs ++ varB tn ++ [2] ++ varB s.size ++ byB s) w' v':=by
         unfold RowU
         rw [List.length_append,List.map_append,byB_length,← byB_cells]
         exact hown2
        refine tb_yield (v:=v') (w':=w') hT ho hd rfl rfl (by decide) (by decide) (exec_append2 rfl e1 v0 hrun) (hT.ext.grown hgr (fun q hq=>Nat.le_trans hB (own_ge hown q hq))) ⟨v',rfl,hR9⟩ ?_
        have hnk:=NdK.grown hown hgr
        intro j hj hji hlj hcj hR
        match j,hj,hR with
        | 0,_,hR=>exact hR
        | 1,_,hR=>exact hR
        | 2,_,hR=>exact hR
        | 3,_,hR=>exact hR
        | 4,_,hR=>exact hR
        | 5,_,_=>exact absurd rfl (hcj 8 rfl).1
        | 6,_,hR=>exact hR
        | 7,_,hR=>exact hR
        | 8,_,_=>exact absurd rfl hji
        | 9,_,_=>rw [l9] at hlj;cases hlj
        | 10,_,hR=>exact ⟨hnk.2 _ _ hR.1,Nat.le_trans hR.2.1 hnk.1,hR.2.2.trans hnk⟩
        | 11,_,_=>exact absurd (dep hd 5 (by kernel_rfl)) (by rw [(hcj 5 rfl).2];decide)
        | j+12,hj,_=>exact absurd hj (by omega)
       | 9,ho,hl,hd =>
        obtain rfl:=Option.some.inj ho
        obtain ⟨v2,f8,hown⟩:∃ v',U 52=some v'∧RowU base (xs ++ varB tn ++ [2] ++ varB s.size ++ byB s) wz v':=hT.facts 8 (by decide) (dep hd 8 (by kernel_rfl)) (fun c e=>by first | (injection e with e;subst e;exact hl) | cases e)
        have e1:Act.eval ⟨over T U,dd⟩ (.tmp 52)=_:=eval_new (t:=T) (d:=dd) f8 (by show 52<T.size;omega)
        refine tb_pure (v:=v2) hT ho hd rfl rfl (by decide) (by decide) ?_ ⟨v2,rfl,hown⟩
        generalize Act.eval ⟨over T U,dd⟩=ev at *
        simp [execOp,go_sem,e1]
       | i+10,ho,_,_=>exact absurd ho (by simp)
     · intro U2 wy hex hout hfin
       obtain ⟨v2,hu4,hr2⟩:∃ v',U2 4=some v'∧RowU base (xs ++ varB tn ++ [2] ++ varB s.size ++ byB s) wy v':=hfin 9 (by decide) rfl
       have hb6:wy.heap[w.heap.size]?=some (.cells #[.int .i64 (tn:Int),.int .i64 2,.int .i64 n,.string s,.slice M.1 ks.length M.2] 52 (0,0))∧base≤wy.heap.size∧NdK wx wy:=hfin 10 (by decide) rfl
       have hnk:=(NdK.ext ((Ext.refl w).alloc _)).trans (HN1.out.trans hb6.2.2)
       rw [over_list]
       simp (disch:=decide) only [overL,Nat.reduceAdd,hout,hu4,Option.getD_none,Option.getD_some]
       clear hfin hout hu4 hb6
       go_wp2
       go_ret
       refine ⟨v2,rfl,?_,hex,hnk⟩
       rw [← List.append_assoc]
       exact hr2
   · obtain ⟨d',rfl⟩:∃ d',d=d' + 1:=⟨d-1,by omega⟩
     have HA:=Hi (HIH.out d' rfl)
     have HKF:=Hi hkf
     have HSL:=Hi (sum_le (f:=encT (d' + 1)) ks)
     have h4:wx.cell? ⟨w.heap.size,4,none⟩=some (.slice M.1 ks.length M.2):=by rw [cell_of_row _ _ 4 _ _ _ HB1.out];rfl
     rw [List.length_append] at hn
     obtain ⟨XS,hXS⟩:∃ XS,xs ++ varB tn ++ [3] ++ varB ks.length=XS:=⟨_,rfl⟩
     have hXL:XS.length=xs.length+(varB tn).length+1+(varB ks.length).length:=by rw [← hXS,List.length_append,HL1.out]
     have HAV:=Hi (rav_any W0 base hB v1 (xs ++ varB tn ++ [3]) ks.length (by omega) wx HX1.out hbx (by rw [HL1.out];omega) HR1.out)
     rw [hXS] at HAV
     have HXS:=Hi hXS
     obtain ⟨tot,htot⟩:∃ t,((ks.map (encT (d' + 1))).flatten).length=t:=⟨_,rfl⟩
     rw [htot] at hn
     have HT:=Hi htot
     obtain ⟨m,hm⟩:∃ m,ks.length=m:=⟨_,rfl⟩
     have HN:=Hi hm
     have hlen:XS.length+tot≤1048576:=by omega
     rw [hm] at h4 hkl HAV HB1
     clear hXS htot hXL hkf HS HIH HX1 HL1 hn
     go_wp2_with fail
     with_reducible refine HAV.out.mono ?_
     rintro e w2 ⟨v2,rfl,hr2,hx2,hf2⟩
     have HR2:=Hi hr2
     have HX2:=Hi hx2
     have HN2:=Hi (NdK.fra HR1.out hf2)
     have HB2:=Hi (HN2.out.2 _ _ HB1.out)
     have hb2:base≤w2.heap.size:=Nat.le_trans hbx hf2.1
     have h5:w2.cell? ⟨w.heap.size,4,none⟩=some (.slice M.1 m M.2):=by rw [cell_of_row _ _ 4 _ _ _ HB2.out];rfl
     have HZ:Hid (NdK w w2):=Hi ((NdK.ext ((Ext.refl w).alloc _)).trans (HN1.out.trans HN2.out))
     clear hr2 hx2 hf2 h4 h1 HN1 HN2 HB1 HR1 HAV hm
     go_wp2
     go_loopw [0,6] (fun z i wr=>∃ (k:Nat) (b:Value),k≤m∧b=z∧i=.int .i64 k∧Hid (RowU base (XS ++ ((ks.take k).map (encT (d' + 1))).flatten) wr b)∧Hid (Ext W0 wr)∧base≤wr.heap.size∧Hid (NdK w2 wr)) (fun _ i _=>m-(intOf i).toNat)
     case atStart=>exact ⟨0,_,by omega,rfl,rfl,Hi (by simpa using HR2.out),HX2,hb2,Hi ⟨Nat.le_refl _,fun _ _ h=>h⟩⟩
     case round =>
      obtain ⟨k,b,hk,rfl,rfl,HRk,HXk,hbk,HNk⟩:=hrel
      have h6:wr.cell? ⟨w.heap.size,4,none⟩=some (.slice M.1 m M.2):=by rw [cell_of_row _ _ 4 _ _ _ (HNk.out.2 _ _ HB2.out)];rfl
      by_cases hlt:k<m
      · obtain ⟨y,hy⟩:∃ y,ks[k]?=some y:=⟨ks[k]'(by rw [HN.out];exact hlt),List.getElem?_eq_getElem _⟩
        obtain ⟨bb,off,N,hA,hbb,c0,c1,c2,c3,c4,hKN⟩:=HK.out.at_ hy
        have d0:=HXk.out.keep c0
        have d1:=HXk.out.keep c1
        have d2:=HXk.out.keep c2
        have d3:=HXk.out.keep c3
        have d4:=HXk.out.keep c4
        clear c0 c1 c2 c3 c4
        obtain ⟨MA,mc⟩:=M
        dsimp only at hA
        subst hA
        have hle:=HSL.out (k+1)
        have hnx:((ks.take (k+1)).map (encT (d' + 1))).flatten=((ks.take k).map (encT (d' + 1))).flatten ++ encT (d' + 1) y:=by
         rw [List.take_add_one,hy,List.map_append,List.flatten_append];simp
        rw [hnx,List.length_append,HT.out] at hle
        have HNX:=Hi hnx
        have HFX:=Hi (HKF.out y (List.mem_of_getElem? hy))
        have ki0:(0:Int)≤(k:Int):=by omega
        have ki1:(k:Int)<(m:Int):=by omega
        have hC:∀ wz,Ext wr wz→Calls Tryz.prog 68 #[b,.agg #[.int .i64 y.tag,.int .i64 y.kind,.int .i64 y.n,.string y.s,.slice N.1 y.kids.length N.2]] wz fun e w'=>∃ v',e=.returned v'∧RowU base (XS ++ ((ks.take (k+1)).map (encT (d' + 1))).flatten) w' v'∧Ext W0 w'∧NdK wz w':=fun wz hz=>by
         have:=HA.out y N W0 base b (XS ++ ((ks.take k).map (encT (d' + 1))).flatten) wz hB (HXk.out.trans hz) (Nat.le_trans hbk hz.size) hKN HFX.out (by rw [List.length_append];omega) (own_ext HRk.out hz)
         rw [HNX.out,← List.append_assoc]
         exact this
        have HC:=Hi hC
        clear hy hKN hnx hC hle
        go_wp2_with fail
        with_reducible refine (HC.out _ (Ext.refl _)).mono ?_
        rintro e w3 ⟨v3,rfl,hr3,hx3,hn3⟩
        have HR3:=Hi hr3
        have HX3:=Hi hx3
        have HN3:=Hi ((HNk.out.trans (NdK.ext (Ext.refl _))).trans hn3)
        have hb3:base≤w3.heap.size:=Nat.le_trans (Nat.le_trans hbk ((Ext.refl _):Ext wr _).size) hn3.1
        clear hr3 hx3 hn3
        go_wp2
        go_roundw
        case rel=>exact ⟨k+1,_,by omega,rfl,by go_num,HR3,HX3,hb3,HN3⟩
        case measure=>simp [intOf];omega
      · obtain rfl:k=m:=by omega
        have hf:((ks.take k).map (encT (d' + 1))).flatten=(ks.map (encT (d' + 1))).flatten:=by rw [← HN.out,List.take_length]
        have HRR:=HRk.out
        rw [hf,← HXS.out,List.append_assoc _ (varB ks.length)] at HRR
        have HRR2:=Hi HRR
        have HZ2:=Hi (HZ.out.trans HNk.out)
        clear hf HRR
        go_wp2
        go_ret
        exact ⟨b,rfl,HRR2.out,HXk.out,HZ2.out⟩
theorem wri_all (B:Nat):∀ d,WriAt B d:=by
 have step:∀ d,(∀ d',d=d' + 1→WriAt B d')→WriAt B d:=by
  intro d ih x M W0 base v xs w hB hX hb hK hF hn hR
  obtain ⟨tn,kd,n,s,ks,E,ht,rfl,hE,hS⟩:=fits_shape hF
  rw [hE] at hn ⊢
  have hl:(varB tn ++ ([kd] ++ E)).length=(varB tn).length+(1+E.length):=by simp only [List.length_append,List.length_cons,List.length_nil]
  rw [hl] at hn
  have:=wri_core B d ih tn kd n s ks E M W0 base v xs w ht hS hB hX hb hK hn hR
  rw [List.append_assoc,List.append_assoc] at this
  exact this
 intro d
 induction d with
 | zero=>exact step 0 (fun d' h=>by omega)
 | succ d ih=>exact step (d+1) (fun d' h=>by
     obtain rfl:d=d':=by omega
     exact ih)
end Go.Proofs.YtnlenappjjlbjaaGreatDoor
namespace Go.Proofs.YtnlenappjjlbjaaGreatDoor
open Go.RowKit

def SlU (w:World) (A:Option Addr) (xs:List Int):Prop:=Sl w 1 A (xs.map fun x=>[.int .u8 x])
theorem SlU.ext {w w':World} {A:Option Addr} {xs:List Int} (h:SlU w A xs) (he:Ext w w'):SlU w' A xs:=Sl.ext h he
theorem SlU.at_ {w : World} {A : Option Addr} {xs : List Int} (h : SlU w A xs) {i : Nat} (hi : i < xs.length) :
    ∃ b off,A=some ⟨b,off,none⟩∧b<w.heap.size∧w.cell? ⟨b,off+i,none⟩=some (.int .u8 xs[i]):=by
 obtain ⟨b,off,hA,hb,hc⟩:=Sl.at_ (i:=i) (cs:=[.int .u8 xs[i]]) h (by simp [hi])
 exact ⟨b,off,hA,hb,by simpa using hc 0 _ rfl⟩
def dgS (h c:Int):Int:=IntKind.u64.wrap (bits BinOp.xor IntKind.u64 h (IntKind.u64.wrap c)*1099511628211)
def dgA (h:Int) (xs:List Int):Int:=xs.foldl dgS h
def dgOf (xs:List Int):Int:=dgA 14695981039346656037 xs
theorem dgA_next {h:Int} {xs:List Int} {k:Nat} {c:Int} (hc:xs[k]?=some c):dgA h (xs.take (k+1))=dgS (dgA h (xs.take k)) c:=by
 unfold dgA;rw [List.take_add_one,hc,List.foldl_append];rfl
set_option maxRecDepth 100000 in
set_option maxHeartbeats 1600000 in
theorem extend_any (h c:Int) (w:World):Calls Tryz.prog 105 #[.int .u64 h,.int .u8 c] w fun e w'=>e=.returned (.int .u64 (dgS h c))∧w=w':=by
 go_enter Tryz.func105,Tryz.ntmps105
 go_wp2
 go_ret
 exact ⟨rfl,rfl⟩
set_option maxRecDepth 100000 in
set_option maxHeartbeats 3200000 in
theorem radd_any (h:Int) (A:Option Addr) (c:Nat) (xs:List Int) (w:World) (hs:SlU w A xs) (hl:xs.length≤9223372036854775807):Calls Tryz.prog 73 #[.int .u64 h,.slice A xs.length c] w fun e w'=>e=.returned (.int .u64 (dgA h xs))∧w=w':=by
 have H:=Hi hs
 clear hs
 obtain ⟨n,hn⟩:∃ n,xs.length=n:=⟨_,rfl⟩
 rw [hn] at hl ⊢
 have HN:=Hi hn
 clear hn
 go_enter Tryz.func73,Tryz.ntmps73
 go_wp2
 go_loop [0,5] (fun m i=>∃ k:Nat,k≤n∧i=.int .i64 k∧m=.int .u64 (dgA h (xs.take k))) (fun _ i=>n-(intOf i).toNat)
 case atStart=>exact ⟨0,by omega,rfl,rfl⟩
 case round =>
  obtain ⟨k,hk,rfl,rfl⟩:=hrel
  by_cases hlt:k<n
  · have hlt':k<xs.length:=by rw [HN.out];exact hlt
    obtain ⟨gb,go,rfl,hgb,x0⟩:=H.out.at_ hlt'
    have HX:=Hi (dgA_next (h:=h) (List.getElem?_eq_getElem hlt'))
    generalize xs[k]=y at *
    have ki0:(0:Int)≤(k:Int):=by omega
    have ki1:(k:Int)<(n:Int):=by omega
    clear hlt'
    go_wp2_with fail
    with_reducible refine (extend_any _ _ _).mono ?_
    rintro e w1 ⟨rfl,rfl⟩
    go_wp2
    go_round
    case rel=>exact ⟨k+1,by omega,by go_num,by rw [HX.out]⟩
    case measure=>simp [intOf];omega
  · obtain rfl:k=n:=by omega
    have hf:xs.take k=xs:=by rw [← HN.out,List.take_length]
    rw [hf]
    clear hf
    go_wp2
    go_ret
    exact ⟨rfl,rfl⟩
set_option maxRecDepth 100000 in
set_option maxHeartbeats 3200000 in
theorem add_dg (h:Int) (A:Option Addr) (c:Nat) (xs:List Int) (w:World) (hs:SlU w A xs) (hl:xs.length≤9223372036854775807):Calls Tryz.prog 61 #[.int .u64 h,.slice A xs.length c] w fun e w'=>e=.returned (.int .u64 (dgA h xs))∧w=w':=by
 have H:=Hi hs
 clear hs
 obtain ⟨n,hn⟩:∃ n,xs.length=n:=⟨_,rfl⟩
 rw [hn] at hl ⊢
 have HN:=Hi hn
 clear hn
 go_enter Tryz.func61,Tryz.ntmps61
 go_wp2
 go_loop [0,9] (fun m i=>∃ k:Nat,k≤n∧i=.int .i64 k∧m=.int .u64 (dgA h (xs.take k))) (fun _ i=>n-(intOf i).toNat)
 case atStart=>exact ⟨0,by omega,rfl,rfl⟩
 case round =>
  obtain ⟨k,hk,rfl,rfl⟩:=hrel
  by_cases hlt:k<n
  · have hlt':k<xs.length:=by rw [HN.out];exact hlt
    obtain ⟨gb,go,rfl,hgb,x0⟩:=H.out.at_ hlt'
    have HX:=Hi (dgA_next (h:=h) (List.getElem?_eq_getElem hlt'))
    generalize xs[k]=y at *
    have ki0:(0:Int)≤(k:Int):=by omega
    have ki1:(k:Int)<(n:Int):=by omega
    clear hlt'
    go_wp2
    go_round
    case rel=>exact ⟨k+1,by omega,by go_num,by rw [HX.out];rfl⟩
    case measure=>simp [intOf];omega
  · obtain rfl:k=n:=by omega
    have hf:xs.take k=xs:=by rw [← HN.out,List.take_length]
    rw [hf]
    clear hf
    go_wp2
    go_ret
    exact ⟨rfl,rfl⟩
set_option maxRecDepth 100000 in
theorem of_dg (A:Option Addr) (c:Nat) (xs:List Int) (w:World) (hs:SlU w A xs) (hl:xs.length≤9223372036854775807):Calls Tryz.prog 48 #[.slice A xs.length c] w fun e w'=>e=.returned (.int .u64 (dgOf xs))∧w=w':=by
 have H:=Hi (add_dg 14695981039346656037 A c xs w hs hl)
 clear hs
 go_enter Tryz.func48,Tryz.ntmps48
 go_wp2_with fail
 refine H.out.mono ?_
 rintro e w1 ⟨rfl,rfl⟩
 go_wp2
 go_ret
 exact ⟨rfl,rfl⟩
set_option maxRecDepth 100000 in
theorem rof_dg (A:Option Addr) (c:Nat) (xs:List Int) (w:World) (hs:SlU w A xs) (hl:xs.length≤9223372036854775807):Calls Tryz.prog 75 #[.slice A xs.length c] w fun e w'=>e=.returned (.int .u64 (dgOf xs))∧w=w':=by
 have H:=Hi (radd_any 14695981039346656037 A c xs w hs hl)
 clear hs
 go_enter Tryz.func75,Tryz.ntmps75
 go_wp2_with fail
 refine H.out.mono ?_
 rintro e w1 ⟨rfl,rfl⟩
 go_wp2
 go_ret
 exact ⟨rfl,rfl⟩
end Go.Proofs.YtnlenappjjlbjaaGreatDoor
namespace Go.Proofs.YtnlenappjjlbjaaGreatDoor
open Go.RowKit Go.Shelf

theorem RowU.sl {base:Nat} {xs:List Int} {w:World} {v:Value} (h:RowU base xs w v):∃ A c,v=.slice A xs.length c∧SlU w A xs:=by
 have e:(xs.map fun x=>[Value.int .u8 x]).flatten=xs.map (Value.int .u8):=by
  clear h
  induction xs with
  | nil=>rfl
  | cons x l ih=>rw [List.map_cons,List.flatten_cons,ih];rfl
 unfold RowU at h
 rw [← e] at h
 obtain ⟨A,c,h1,_,_,h2⟩:=Sl.of_own (xs:=xs.map fun x=>[Value.int .u8 x]) (fun c hc=>by obtain ⟨x,_,rfl⟩:=List.mem_map.1 hc;rfl) (by rw [List.length_map]) h
 rw [List.length_map] at h1
 exact ⟨A,c,h1,h2⟩
theorem make_u8 (n:Nat) (hn:n≤2000000) (w:World):∃ W,(Instr.makeSlice 24 (.int .i64 0) (.int .i64 (n:Int))).run Tryz.prog w=.ok (.slice (some ⟨w.heap.size,0,none⟩) 0 n) W∧RowU w.heap.size [] W (.slice (some ⟨w.heap.size,0,none⟩) 0 n)∧Ext w W:=by
 obtain ⟨i,hi,hzz⟩:=Option.map_eq_some_iff.1 Tryz.infoU8
 simp only [Prod.mk.injEq] at hzz
 obtain ⟨hz,hs,hb⟩:=hzz
 have hr:=run_make (P:=Tryz.prog) w 24 5 i _ Tryz.underlying24 hi hz .i64 .i64 0 n (by omega) (by omega) (by rw [hb];omega) (by omega)
 simp only [Int.toNat_natCast,Int.toNat_zero,hs] at hr
 refine ⟨_,hr,⟨rfl,Or.inr ⟨w.heap.size,n,_,rfl,Nat.le_refl _,heap_alloc_new _ _,Nat.zero_le _,by unfold maxLen;omega,?_,rfl⟩⟩,(Ext.refl _).alloc _⟩
 rw [size_madeCells]
def ceR (g base:Nat) (CA:Array Value) (z:Nat) (E:List Int) (j:Nat) (u:Option Value) (w:World):Prop :=
 match j with
 | 0=>u=some (.int .i64 z)
 | 1=>∃ v,u=some v∧RowU base [] w v
 | 2=>u=some (.agg CA)
 | 3=>∃ v,u=some v∧RowU base E w v
 | 4=>∃ v,u=some v∧RowU base E w v
 | 5=>u=some (.int .i64 0)
 | _=>w.heap[g]?=some (.cells CA 52 (0,0))∧base≤w.heap.size
def ceC:Nat→Option Nat
 | 1=>some 3
 | _=>none
def ceD:List Nat:=[13,14,15,16,2,3,1000]
def ceE (g:Nat) (z:Nat) (t:Array Value):Prop:=t.getD 1 undef=.pointer (some ⟨g,0,none⟩)∧t.getD 4 undef=.int .i64 z∧t.size=17
theorem ceR_ext (g base:Nat) (CA:Array Value) (z:Nat) (E:List Int) (j:Nat) (u:Option Value) (w w':World) (he:Ext w w') (h:ceR g base CA z E j u w):ceR g base CA z E j u w':=by
 match j,h with
 | 0,h=>exact h
 | 1,⟨v,h1,h2⟩=>exact ⟨v,h1,own_ext h2 he⟩
 | 2,h=>exact h
 | 3,⟨v,h1,h2⟩=>exact ⟨v,h1,own_ext h2 he⟩
 | 4,⟨v,h1,h2⟩=>exact ⟨v,h1,own_ext h2 he⟩
 | 5,h=>exact h
 | j+6,h=>exact ⟨he.blockAt h.1,Nat.le_trans h.2 he.size⟩
theorem RowU.lower {base base':Nat} {xs:List Int} {w:World} {v:Value} (h:RowU base xs w v) (hb:base' ≤ base):RowU base' xs w v:=by
 obtain ⟨h1,h2⟩:=h
 refine ⟨h1,?_⟩
 rcases h2 with h2 | ⟨g,cap,cur,e,hg,r⟩
 · exact Or.inl h2
 · exact Or.inr ⟨g,cap,cur,e,Nat.le_trans hb hg,r⟩
set_option maxRecDepth 100000 in
set_option maxHeartbeats 6400000 in
theorem cenc_ok (B d : Nat) (hd : d ≤ 7) (x : Nd) (M : Option Addr × Nat) (w : World) (hK : KidsAt B 0 d w M x.kids) (hF : Fits (d + 1) x) (hl : (encT (d + 1) x).length ≤ 1048576) :
    Calls Tryz.prog 24 #[nda x M] w fun e w'=>(∃ A c,e=.returned (.tuple #[.slice A (encT (d+1) x).length c,.int .i64 0])∧SlU w' A (encT (d+1) x))∧Ext w w':=by
 have EN:=Hi (enters_of Tryz.func56 (by kernel_rfl) rfl)
 obtain ⟨CA,hca,hcs⟩:∃ CA,nda x M=.agg CA∧CA.size=5:=⟨_,rfl,rfl⟩
 have HM:Hid (∀ w,KidsAt B 0 d w M x.kids→Calls Tryz.prog 55 #[nda x M,.int .i64 1,.int .i64 1048576] w fun e w'=>e=.returned (.tuple #[.int .i64 ((encT (d+1) x).length:Nat),.bool true])∧Ext w w') :=
  Hi (fun w h=>mea_all B d x M 1 1048576 w h hF (by omega) (by omega) (by omega) (by omega))
 have HAP:Hid (∀ (W0:World) (h:KidsAt B 0 d W0 M x.kids) (w:World) (v:Value),Ext W0 w→W0.heap.size≤w.heap.size→RowU W0.heap.size [] w v→Calls Tryz.prog 56 #[v,nda x M] w fun e w'=>∃ v',e=.returned v'∧RowU W0.heap.size (encT (d+1) x) w' v'∧Ext W0 w'∧NdK w w') :=
  Hi (fun W0 h w v hX hb hr=>app_all B d x M W0 W0.heap.size v [] w (Nat.le_refl _) hX hb h hF (by simpa using hl) hr)
 have HK:=Hi hK
 obtain ⟨E,hE⟩:∃ E,encT (d+1) x=E:=⟨_,rfl⟩
 rw [hE] at HM HAP hl ⊢
 obtain ⟨z,hz⟩:∃ z,E.length=z:=⟨_,rfl⟩
 have HZ:=Hi hz
 rw [hz] at HM hl
 rw [hca] at HM HAP ⊢
 have IA:Hid ((Tryz.prog.info? 52).map (·.size)=some CA.size):=Hi (by rw [hcs];kernel_rfl)
 clear hca hcs hK hF hE hz
 go_enter Tryz.func24,Tryz.ntmps24
 go_wp2_with (refine wpList_load_row rfl _ _ rfl w.heap.size rfl _ CA _ _ (heap_alloc_new _ _) Tryz.underlying52 rfl IA.out ?_)
 have X0:=(Ext.refl w).alloc (.cells CA 52)
 with_reducible refine (HM.out _ (HK.out.ext X0)).mono ?_
 rintro e w2 ⟨rfl,hb2⟩
 have HB2:=Hi (hb2.blockAt (heap_alloc_new w (.cells CA 52)))
 have X2:=Hi (X0.trans hb2)
 have HA:=Hi (HAP.out w2 (HK.out.ext X2.out))
 clear hb2 X0 HAP HM
 go_wp2_with fail
 refine region_tb (by kernel_rfl) (by decide +kernel) (ceE w.heap.size z) ⟨rfl,rfl,rfl⟩ 7 ceD ceC (ceR w.heap.size w2.heap.size CA z E) w2 (Ext.refl _) (fun i h1 h2=>by
  have h1':6≤i:=h1
  obtain rfl:i=6:=by omega
  exact ⟨(Ext.refl _).drew.blockAt HB2.out,(Ext.refl _).drew.size⟩) ?_ ?_
 · intro T dd l' U wz i o hE ho hl hd hT
   obtain ⟨t1,t4,tz⟩:=hE
   match i,ho,hl,hd with
   | 0,ho,hl,hd =>
    obtain rfl:=Option.some.inj ho
    have v0:=eval_old (d:=dd) (hT.out 4 (by decide)) (by omega) t4
    refine tb_pure (v:=.int .i64 (z:Int)) hT ho hd rfl rfl (by decide) (by decide) ?_ rfl
    generalize Act.eval ⟨over T U,dd⟩=ev at *
    simp [execOp,go_sem,v0]
   | 1,ho,hl,hd =>
    obtain rfl:=Option.some.inj ho
    have fv0:U 13=some (.int .i64 (z:Int)):=hT.facts 0 (by decide) (dep hd 0 (by kernel_rfl)) (fun c e=>by cases e)
    have v0:Act.eval ⟨over T U,dd⟩ (.tmp 13)=_:=eval_new (t:=T) (d:=dd) fv0 (by show 13<T.size;omega)
    have hblk:wz.heap[w.heap.size]?=some (.cells CA 52 (0,0))∧w2.heap.size≤wz.heap.size:=hT.facts 6 (by decide) (hT.past 6 (Nat.le_refl 6)) (fun c e=>by cases e)
    have vc:Act.eval ⟨over T U,dd⟩ (.const (.int .i64 0))=.int .i64 0:=rfl
    obtain ⟨W,hrun,hrow,hext⟩:=make_u8 z (by omega) wz
    refine tb_ext (v:=.slice (some ⟨wz.heap.size,0,none⟩) 0 z) (w':=W) (ceR_ext w.heap.size w2.heap.size CA z E) hT ho hd rfl rfl (by decide) (by decide) ?_ hext ⟨_,rfl,hrow.lower hblk.2⟩
    generalize Act.eval ⟨over T U,dd⟩=ev at *
    simp [execOp,v0,vc,go_sem,hrun]
   | 2,ho,hl,hd =>
    obtain rfl:=Option.some.inj ho
    have v0:=eval_old (d:=dd) (hT.out 1 (by decide)) (by omega) t1
    have hblk:wz.heap[w.heap.size]?=some (.cells CA 52 (0,0))∧w2.heap.size≤wz.heap.size:=hT.facts 6 (by decide) (hT.past 6 (Nat.le_refl 6)) (fun c e=>by cases e)
    refine tb_yield (v:=.agg CA) (w':=wz) hT ho hd rfl rfl (by decide) (by decide) (exec_load_row _ _ rfl w.heap.size v0 _ CA _ _ hblk.1 Tryz.underlying52 rfl IA.out) hT.ext rfl (fun _ _ _ _ _ h=>h)
   | 3,ho,hl,hd =>
    obtain rfl:=Option.some.inj ho
    obtain ⟨v,f1,hown⟩:∃ v,U 14=some v∧RowU w2.heap.size [] wz v:=hT.facts 1 (by decide) (dep hd 1 (by kernel_rfl)) (fun c e=>by injection e with e;subst e;exact hl)
    have e1:Act.eval ⟨over T U,dd⟩ (.tmp 14)=_:=eval_new (t:=T) (d:=dd) f1 (by show 14<T.size;omega)
    have fv0:U 15=some (.agg CA):=hT.facts 2 (by decide) (dep hd 2 (by kernel_rfl)) (fun c e=>by cases e)
    have v0:Act.eval ⟨over T U,dd⟩ (.tmp 15)=_:=eval_new (t:=T) (d:=dd) fv0 (by show 15<T.size;omega)
    have hblk:wz.heap[w.heap.size]?=some (.cells CA 52 (0,0))∧w2.heap.size≤wz.heap.size:=hT.facts 6 (by decide) (hT.past 6 (Nat.le_refl 6)) (fun c e=>by cases e)
    have l4:l' 4=false:=by
     cases h4:l' 4 with
     | false=>rfl
     | true =>
      have h3:=dep (hT.shut 4 _ rfl h4) 3 (by kernel_rfl)
      rw [hl] at h3;cases h3
    refine tb_callX (f:=56) (args:=#[v,.agg CA]) hT ho hd rfl rfl (by decide) (by decide) (exec_call2 rfl rfl e1 v0 EN.out) ?_
    refine (HA.out wz v hT.ext hblk.2 hown).mono ?_
    rintro e w' ⟨v',rfl,hr,hx,hnk⟩
    refine ⟨v',rfl,hx,⟨v',rfl,hr⟩,fun j hj hji hlj hcj hR=>?_⟩
    match j,hj,hR with
    | 0,_,hR=>exact hR
    | 1,_,_=>exact absurd rfl (hcj 3 rfl).1
    | 2,_,hR=>exact hR
    | 3,_,_=>exact absurd rfl hji
    | 4,_,_=>rw [l4] at hlj;cases hlj
    | 5,_,hR=>exact hR
    | 6,_,hR=>exact ⟨hnk.2 _ _ hR.1,Nat.le_trans hR.2 hnk.1⟩
    | j+7,hj,_=>exact absurd hj (by omega)
   | 4,ho,hl,hd =>
    obtain rfl:=Option.some.inj ho
    obtain ⟨v,f3,hown⟩:∃ v,U 16=some v∧RowU w2.heap.size E wz v:=hT.facts 3 (by decide) (dep hd 3 (by kernel_rfl)) (fun c e=>by cases e)
    have e1:Act.eval ⟨over T U,dd⟩ (.tmp 16)=_:=eval_new (t:=T) (d:=dd) f3 (by show 16<T.size;omega)
    refine tb_pure (v:=v) hT ho hd rfl rfl (by decide) (by decide) ?_ ⟨v,rfl,hown⟩
    generalize Act.eval ⟨over T U,dd⟩=ev at *
    simp [execOp,go_sem,e1]
   | 5,ho,hl,hd =>
    obtain rfl:=Option.some.inj ho
    have vc:Act.eval ⟨over T U,dd⟩ (.const (.int .i64 0))=.int .i64 0:=rfl
    refine tb_pure (v:=.int .i64 0) hT ho hd rfl rfl (by decide) (by decide) ?_ rfl
    generalize Act.eval ⟨over T U,dd⟩=ev at *
    simp [execOp,go_sem,vc]
   | i+6,ho,_,_=>exact absurd ho (by simp)
 · intro U wx hex hout hfin
   obtain ⟨v,hu2,hr⟩:∃ v,U 2=some v∧RowU w2.heap.size E wx v:=hfin 4 (by decide) rfl
   have hu3:U 3=some (.int .i64 0):=hfin 5 (by decide) rfl
   have HR:=Hi hr
   have HX:=Hi hex
   rw [over_list]
   simp (disch:=decide) only [overL,Nat.reduceAdd,hout,hu2,hu3,Option.getD_none,Option.getD_some]
   clear hr hex hfin hout hu2 hu3
   go_wp2
   go_ret2
   obtain ⟨A,c,rfl,hs⟩:=HR.out.sl
   exact ⟨⟨A,c,rfl,hs⟩,X2.out.trans HX.out⟩
end Go.Proofs.YtnlenappjjlbjaaGreatDoor
namespace Go.Proofs.YtnlenappjjlbjaaGreatDoor
open Go.RowKit Go.Shelf

set_option maxRecDepth 100000 in
set_option maxHeartbeats 6400000 in
theorem fit_1 (tn : Nat) (n : Int) (M : Option Addr × Nat) (lv : Int) (w : World) (ht : tn ≤ 9999999) (h1 : 0 ≤ lv) (h2 : lv ≤ 8) :
    Calls Tryz.prog 67 #[nda (.mk tn 1 n ⟨#[]⟩ []) M,.int .i64 lv] w fun e w'=>e=.returned (.bool true)∧Ext w w':=by
 have hd1:decide ((8:Int)<lv)=false:=by rw [decide_eq_false_iff_not];omega
 have hd2:decide ((tn:Int)<0)=false:=by rw [decide_eq_false_iff_not];omega
 have hd3:decide ((9999999:Int)<tn)=false:=by rw [decide_eq_false_iff_not];omega
 simp only [nda,Nd.tag,Nd.kind,Nd.n,Nd.s,Nd.kids,List.length_nil]
 go_enter Tryz.func67,Tryz.ntmps67
 go_wp2
 go_loopw [5] (fun i wr=>i=.int .i64 0∧wr=(w.alloc (.cells #[.int .i64 (tn:Int),.int .i64 1,.int .i64 n,.string ⟨#[]⟩,.slice M.1 0 M.2] 52))) (fun _ _=>0)
 case atStart=>exact ⟨rfl,rfl⟩
 case round =>
  obtain ⟨rfl,rfl⟩:=hrel
  go_wp2
  go_ret
  exact ⟨rfl,(Ext.refl _).alloc _⟩
set_option maxRecDepth 100000 in
set_option maxHeartbeats 6400000 in
theorem fit_2 (tn : Nat) (s : ByteArray) (M : Option Addr × Nat) (lv : Int) (w : World) (ht : tn ≤ 9999999) (hs : s.size ≤ 2000) (h1 : 0 ≤ lv) (h2 : lv ≤ 8) :
    Calls Tryz.prog 67 #[nda (.mk tn 2 0 s []) M,.int .i64 lv] w fun e w'=>e=.returned (.bool true)∧Ext w w':=by
 have hd1:decide ((8:Int)<lv)=false:=by rw [decide_eq_false_iff_not];omega
 have hd2:decide ((tn:Int)<0)=false:=by rw [decide_eq_false_iff_not];omega
 have hd3:decide ((9999999:Int)<tn)=false:=by rw [decide_eq_false_iff_not];omega
 have hd4:decide ((2000:Int)<s.size)=false:=by rw [decide_eq_false_iff_not];omega
 simp only [nda,Nd.tag,Nd.kind,Nd.n,Nd.s,Nd.kids,List.length_nil]
 go_enter Tryz.func67,Tryz.ntmps67
 go_wp2
 go_loopw [5] (fun i wr=>i=.int .i64 0∧wr=(w.alloc (.cells #[.int .i64 (tn:Int),.int .i64 2,.int .i64 0,.string s,.slice M.1 0 M.2] 52))) (fun _ _=>0)
 case atStart=>exact ⟨rfl,rfl⟩
 case round =>
  obtain ⟨rfl,rfl⟩:=hrel
  go_wp2
  go_ret
  exact ⟨rfl,(Ext.refl _).alloc _⟩
def FitAt (B d:Nat):Prop:=∀ (x:Nd) (M:Option Addr×Nat) (lv:Int) (w:World),KidsAt B 0 d w M x.kids→Fits (d+1) x→0≤lv→lv+d≤8 →
 Calls Tryz.prog 67 #[nda x M,.int .i64 lv] w fun e w'=>e=.returned (.bool true)∧Ext w w'
set_option maxRecDepth 100000 in
set_option maxHeartbeats 12800000 in
theorem fit_3 (B d : Nat) (ih : FitAt B d) (tn : Nat) (ks : List Nd) (M : Option Addr × Nat) (lv : Int) (w : World) (hK : KidsAt B 0 (d + 1) w M ks) (hF : ∀ k ∈ ks, Fits (d + 1) k) (ht : tn ≤ 9999999) (hl : ks.length ≤ 1024) (h1 : 0 ≤ lv) (h2 : lv + (d + 1) ≤ 8) :
    Calls Tryz.prog 67 #[nda (.mk tn 3 0 ⟨#[]⟩ ks) M,.int .i64 lv] w fun e w'=>e=.returned (.bool true)∧Ext w w':=by
 have HIH:=Hi ih
 have HK:=Hi hK
 have HF:=Hi hF
 obtain ⟨n,hn⟩:∃ n,ks.length=n:=⟨_,rfl⟩
 have HN:=Hi hn
 rw [hn] at hl
 clear ih hK hF
 have hd1:decide ((8:Int)<lv)=false:=by rw [decide_eq_false_iff_not];omega
 have hd2:decide ((tn:Int)<0)=false:=by rw [decide_eq_false_iff_not];omega
 have hd3:decide ((9999999:Int)<tn)=false:=by rw [decide_eq_false_iff_not];omega
 have hd4:decide ((1024:Int)<n)=false:=by rw [decide_eq_false_iff_not];omega
 simp only [nda,Nd.tag,Nd.kind,Nd.n,Nd.s,Nd.kids]
 rw [hn]
 clear hn
 obtain ⟨W1,hW1⟩:∃ W,w.alloc (.cells #[.int .i64 (tn:Int),.int .i64 3,.int .i64 0,.string ⟨#[]⟩,.slice M.1 n M.2] 52)=W:=⟨_,rfl⟩
 have B1:Hid (W1.heap[w.heap.size]?=some (.cells #[.int .i64 (tn:Int),.int .i64 3,.int .i64 0,.string ⟨#[]⟩,.slice M.1 n M.2] 52 (0,0))):=Hi (by rw [← hW1];exact heap_alloc_new _ _)
 have X1:Hid (Ext w W1):=Hi (by rw [← hW1];exact (Ext.refl _).alloc _)
 have HW1:=Hi hW1
 clear hW1
 go_enter Tryz.func67,Tryz.ntmps67
 go_wp2
 go_loopw [5] (fun i wr=>∃ k:Nat,k≤n∧i=.int .i64 k∧Hid (Ext W1 wr)) (fun i _=>n-(intOf i).toNat)
 case atStart=>exact ⟨0,by omega,rfl,Hi (by rw [HW1.out];exact Ext.refl _)⟩
 case round =>
  obtain ⟨k,hk,rfl,HE⟩:=hrel
  have h4:wr.cell? ⟨w.heap.size,4,none⟩=some (.slice M.1 n M.2):=by rw [cell_of_row _ _ 4 _ _ _ (HE.out.blockAt B1.out)];rfl
  by_cases hlt:k<n
  · obtain ⟨x,hx⟩:∃ x,ks[k]?=some x:=⟨ks[k]'(by rw [HN.out];exact hlt),List.getElem?_eq_getElem _⟩
    obtain ⟨bb,off,N,hA,hb,c0,c1,c2,c3,c4,hKN⟩:=(HK.out.ext (X1.out.trans HE.out)).at_ hx
    obtain ⟨MA,mc⟩:=M
    dsimp only at hA
    subst hA
    have HKN:=Hi hKN
    have HFX:=Hi (HF.out x (List.mem_of_getElem? hx))
    have ki0:(0:Int)≤(k:Int):=by omega
    have ki1:(k:Int)<(n:Int):=by omega
    clear hx hKN
    have HC:Hid (Calls Tryz.prog 67 #[.agg #[.int .i64 x.tag,.int .i64 x.kind,.int .i64 x.n,.string x.s,.slice N.1 x.kids.length N.2],.int .i64 (lv+1)] wr fun e w'=>e=.returned (.bool true)∧Ext wr w') :=
     Hi (HIH.out x N (lv+1) wr HKN.out HFX.out (by omega) (by omega))
    go_wp2_with fail
    with_reducible refine HC.out.mono ?_
    rintro e w3 ⟨rfl,hb3⟩
    have HE3:=Hi (HE.out.trans hb3)
    clear hb3
    go_wp2
    go_roundw
    case rel=>exact ⟨k+1,by omega,by go_num,HE3⟩
    case measure=>simp [intOf];omega
  · obtain rfl:k=n:=by omega
    go_wp2
    go_ret
    exact ⟨rfl,X1.out.trans HE.out⟩
theorem fit_all (B:Nat):∀ d,FitAt B d:=by
 have leaf : ∀ (d tn : Nat), tn ≤ 9999999 → ∀ (x : Nd) (M : Option Addr × Nat) (lv : Int) (w : World), ((∃ n, In64 n ∧ x = .mk tn 1 n ⟨#[]⟩ []) ∨ (∃ s : ByteArray, s.size ≤ 2000 ∧ x = .mk tn 2 0 s [])) → 0 ≤ lv → lv + d ≤ 8 →
     Calls Tryz.prog 67 #[nda x M,.int .i64 lv] w fun e w'=>e=.returned (.bool true)∧Ext w w':=by
  intro d tn ht x M lv w hx h1 h2
  rcases hx with ⟨n,hn,rfl⟩ | ⟨s,hs,rfl⟩
  · exact fit_1 tn n M lv w ht h1 (by omega)
  · exact fit_2 tn s M lv w ht hs h1 (by omega)
 intro d
 induction d with
 | zero =>
  intro x M lv w hK hF h1 h2
  obtain ⟨tn,ht,hx | hx | ⟨ks,hd,_⟩⟩:=fits_cases hF
  · exact leaf 0 tn ht x M lv w (Or.inl hx) h1 h2
  · exact leaf 0 tn ht x M lv w (Or.inr hx) h1 h2
  · omega
 | succ d ih =>
  intro x M lv w hK hF h1 h2
  obtain ⟨tn,ht,hx | hx | ⟨ks,hd,hl,hk,rfl⟩⟩:=fits_cases hF
  · exact leaf (d+1) tn ht x M lv w (Or.inl hx) h1 h2
  · exact leaf (d+1) tn ht x M lv w (Or.inr hx) h1 h2
  · exact fit_3 B d ih tn ks M lv w hK hk ht hl h1 (by omega)
end Go.Proofs.YtnlenappjjlbjaaGreatDoor
namespace Go.Proofs.YtnlenappjjlbjaaGreatDoor
open Go.RowKit Go.Shelf

set_option maxRecDepth 100000 in
set_option maxHeartbeats 6400000 in
theorem renc_ok (B d : Nat) (hd : d ≤ 7) (x : Nd) (M : Option Addr × Nat) (w : World) (hK : KidsAt B 0 d w M x.kids) (hF : Fits (d + 1) x) (hl : (encT (d + 1) x).length ≤ 1048576) :
    Calls Tryz.prog 30 #[nda x M] w fun e w'=>(∃ A c,e=.returned (.tuple #[.slice A (encT (d+1) x).length c,.int .i64 0])∧SlU w' A (encT (d+1) x))∧Ext w w':=by
 obtain ⟨CA,hca,hcs⟩:∃ CA,nda x M=.agg CA∧CA.size=5:=⟨_,rfl,rfl⟩
 have HM:Hid (∀ w,KidsAt B 0 d w M x.kids→Calls Tryz.prog 67 #[nda x M,.int .i64 1] w fun e w'=>e=.returned (.bool true)∧Ext w w') :=
  Hi (fun w h=>fit_all B d x M 1 w h hF (by omega) (by omega))
 have HAP:Hid (∀ (W0:World) (h:KidsAt B 0 d W0 M x.kids),Calls Tryz.prog 68 #[.slice none 0 0,nda x M] W0 fun e w'=>∃ v',e=.returned v'∧RowU W0.heap.size (encT (d+1) x) w' v'∧Ext W0 w'∧NdK W0 w') :=
  Hi (fun W0 h=>wri_all B d x M W0 W0.heap.size (.slice none 0 0) [] W0 (Nat.le_refl _) (Ext.refl _) (Nat.le_refl _) h hF (by simpa using hl) (own_nil _ _ _ _))
 have HK:=Hi hK
 obtain ⟨E,hE⟩:∃ E,encT (d+1) x=E:=⟨_,rfl⟩
 rw [hE] at HAP hl ⊢
 rw [hca] at HM HAP ⊢
 have IA:Hid ((Tryz.prog.info? 52).map (·.size)=some CA.size):=Hi (by rw [hcs];kernel_rfl)
 clear hca hcs hK hF hE
 go_enter Tryz.func30,Tryz.ntmps30
 go_wp2_with (refine wpList_load_row rfl _ _ rfl w.heap.size rfl _ CA _ _ (heap_alloc_new _ _) Tryz.underlying52 rfl IA.out ?_)
 have X0:=(Ext.refl w).alloc (.cells CA 52)
 with_reducible refine (HM.out _ (HK.out.ext X0)).mono ?_
 rintro e w2 ⟨rfl,hb2⟩
 have HB2:=Hi (hb2.blockAt (heap_alloc_new w (.cells CA 52)))
 have X2:=Hi (X0.trans hb2)
 have HA:=Hi (HAP.out w2 (HK.out.ext X2.out))
 clear hb2 X0 HAP HM
 go_wp2_with (refine wpList_load_row rfl _ _ rfl w.heap.size rfl _ CA _ _ HB2.out Tryz.underlying52 rfl IA.out ?_)
 with_reducible refine HA.out.mono ?_
 rintro e w3 ⟨v,rfl,hr,hx,-⟩
 obtain ⟨A,c,rfl,hs⟩:=hr.sl
 have HS:=Hi hs
 have X3:=Hi (X2.out.trans hx)
 obtain ⟨z,hz⟩:∃ z,E.length=z:=⟨_,rfl⟩
 rw [hz] at hl
 have HZ:=Hi hz
 have hd1:decide (1048576<(z:Int))=false:=by rw [decide_eq_false_iff_not];omega
 clear hr hx hs HA
 rw [hz]
 clear hz
 go_wp2
 go_ret2
 rw [HZ.out]
 exact ⟨⟨A,c,rfl,HS.out⟩,X3.out⟩

def It.dg (it:It.Item):Int:=dgOf (encT 3 (tree it))
theorem nd_packed (x:Nd) (M:Option Addr×Nat):∃ C:Array Value,nda x M=.agg C∧C.size=5∧C.all (·.oneCell')=true:=⟨_,rfl,rfl,by simp [Value.oneCell']⟩
set_option maxRecDepth 100000 in
set_option maxHeartbeats 6400000 in
theorem digest_bad (it:It.Item) (L:It.Loc) (w:World) (h:It.In w it L) (hg:∀ w',Ext w w'→Gm w') (hv:It.vld it≠0):Calls Tryz.prog 21 #[It.agg it L] w fun e w'=>e=.returned (.tuple #[.int .u64 0,.int .i64 (It.vld it)])∧Ext w w':=by
 obtain ⟨CA,hca,hna,-,-⟩:=It.packed it L
 have HE:=Hi (encode_any it L)
 rw [hca] at HE ⊢
 have IA:=Hi (infoItem hna)
 have H:=Hi h
 have HG:=Hi hg
 obtain ⟨er,her⟩:∃ er,It.vld it=er:=⟨_,rfl⟩
 rw [her] at HE hv ⊢
 have t0:(er != 0)=true:=by rw [bne_iff_ne];exact hv
 clear hca hna h her hg
 go_enter Tryz.func21,Tryz.ntmps21
 go_wp2_with (refine wpList_load_row rfl _ _ rfl w.heap.size rfl _ CA _ _ (heap_alloc_new _ _) Tryz.underlying45 rfl IA.out ?_)
 have X0:=(Ext.refl w).alloc (.cells CA 45)
 with_reducible refine (HE.out _ (H.out.ext X0) (fun w' he=>HG.out w' (X0.trans he))).mono ?_
 rintro e w1 ⟨hE,hb1⟩
 obtain rfl:=hE.2 hv
 have X1:=Hi (X0.trans hb1)
 clear hE hb1 X0 hv
 go_wp2_with (refine wpList_store_row rfl _ _ _ rfl w1.heap.size #[.int .i64 0,.int .i64 0,.int .i64 0,.string ⟨#[]⟩,.slice none 0 0] rfl rfl _ #[.int .i64 0,.int .i64 0,.int .i64 0,.string ⟨#[]⟩,.slice none 0 0] (heap_alloc_new _ _) (by kernel_rfl) rfl (by simp [Value.oneCell']) ?_)
 go_ret2
 exact ⟨rfl,((X1.out.alloc _).setRow X1.out.size _)⟩
set_option maxRecDepth 100000 in
set_option maxHeartbeats 6400000 in
theorem digest_ok (it:It.Item) (L:It.Loc) (w:World) (h:It.In w it L) (hg:∀ w',Ext w w'→Gm w') (hv:It.vld it=0):Calls Tryz.prog 21 #[It.agg it L] w fun e w'=>e=.returned (.tuple #[.int .u64 (It.dg it),.int .i64 0])∧Ext w w':=by
 obtain ⟨CA,hca,hna,-,-⟩:=It.packed it L
 have HE:=Hi (encode_any it L)
 rw [hca] at HE ⊢
 have IA:=Hi (infoItem hna)
 have H:=Hi h
 have HG:=Hi hg
 obtain ⟨hft,hlt⟩:=fits_tree h.ok hv
 have HT:Hid (∀ (M:Option Addr×Nat) (w:World),KidsAt 1000 0 2 w M (flds it)→Calls Tryz.prog 24 #[nda (tree it) M] w fun e w'=>(∃ A c,e=.returned (.tuple #[.slice A (encT 3 (tree it)).length c,.int .i64 0])∧SlU w' A (encT 3 (tree it)))∧Ext w w') :=
  Hi (fun M w hk=>cenc_ok 1000 2 (by omega) (tree it) M w hk hft hlt)
 unfold It.dg
 rw [hv] at HE
 obtain ⟨E,hEE⟩:∃ E,encT 3 (tree it)=E:=⟨_,rfl⟩
 rw [hEE] at HT hlt ⊢
 clear hca hna h hv hft hEE hg
 go_enter Tryz.func21,Tryz.ntmps21
 go_wp2_with (refine wpList_load_row rfl _ _ rfl w.heap.size rfl _ CA _ _ (heap_alloc_new _ _) Tryz.underlying45 rfl IA.out ?_)
 have X0:=(Ext.refl w).alloc (.cells CA 45)
 with_reducible refine (HE.out _ (H.out.ext X0) (fun w' he=>HG.out w' (X0.trans he))).mono ?_
 rintro e w1 ⟨hE,hb1⟩
 obtain ⟨M,rfl,hK⟩:=hE.1 rfl
 obtain ⟨C4,hc4,hn4,ho4⟩:=nd_packed (tree it) M
 rw [hc4]
 obtain ⟨W4,hW4⟩:∃ W,((w1.alloc (.cells #[.int .i64 0,.int .i64 0,.int .i64 0,.string ⟨#[]⟩,.slice none 0 0] 52)).setRow w1.heap.size C4)=W:=⟨_,rfl⟩
 have B4:Hid (W4.heap[w1.heap.size]?=some (.cells C4 52 (0,0))):=Hi (by rw [← hW4];exact setRow_at (heap_alloc_new _ _))
 have E4:Ext w1 W4:=by rw [← hW4];exact ((Ext.refl _).alloc _).setRow (Nat.le_refl _) _
 have X4:=Hi ((X0.trans hb1).trans E4)
 have K4:=Hi ((hK.lower (Nat.zero_le _)).ext E4)
 have F4:=Hi (infoNode hn4)
 have S4:=Hi hn4
 have O4:=Hi ho4
 have HW4:=Hi hW4
 have HC:=Hi (HT.out M W4 K4.out)
 rw [hc4] at HC
 clear hE hb1 X0 hK hc4 hn4 ho4 hW4 E4 HE HT
 go_wp2_with (first
  | (refine wpList_store_row rfl _ _ _ rfl w1.heap.size C4 rfl rfl _ #[.int .i64 0,.int .i64 0,.int .i64 0,.string ⟨#[]⟩,.slice none 0 0] (heap_alloc_new _ _) F4.out S4.out.symm O4.out ?_;rw [HW4.out])
  | refine wpList_load_row rfl _ _ rfl w1.heap.size rfl _ C4 _ _ B4.out Tryz.underlying52 rfl F4.out ?_)
 clear HW4
 with_reducible refine HC.out.mono ?_
 rintro e w5 ⟨⟨A,c,rfl,hs⟩,hb5⟩
 have HS:=Hi (of_dg A c E w5 hs (Nat.le_trans hlt (by decide)))
 have X5:=Hi (X4.out.trans hb5)
 clear hs hb5 HC
 generalize E.length=z at *
 go_wp2_with fail
 with_reducible refine HS.out.mono ?_
 rintro e w6 ⟨rfl,rfl⟩
 go_wp2
 go_ret2
 exact ⟨rfl,X5.out⟩
theorem digest_any (it:It.Item) (L:It.Loc) (w:World) (h:It.In w it L) (hg:∀ w',Ext w w'→Gm w'):Calls Tryz.prog 21 #[It.agg it L] w fun e w'=>e=.returned (.tuple #[.int .u64 (if It.vld it=0 then It.dg it else 0),.int .i64 (It.vld it)])∧Ext w w':=by
 by_cases hv:It.vld it=0
 · rw [if_pos hv,hv];exact digest_ok it L w h hg hv
 · rw [if_neg hv];exact digest_bad it L w h hg hv
end Go.Proofs.YtnlenappjjlbjaaGreatDoor
