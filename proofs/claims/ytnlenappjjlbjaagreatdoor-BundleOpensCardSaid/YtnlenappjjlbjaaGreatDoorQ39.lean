/- The reference's Open: a contract. Conditions: those of each theorem. -/
import Derived.Test.YtnlenappjjlbjaaGreatDoorQ32
import Derived.Test.YtnlenappjjlbjaaGreatDoorQ15
import Derived.Great.Walk
namespace Go.Proofs.YtnlenappjjlbjaaGreatDoor
open Go.ChangeShapes Go.WideShapes Go.ChangeAt Go.RowKit Go.Shelf
theorem built_item (CA:Array Value) (h:CA.size=17):Tryz.prog.builtSlice 45 1 [(0,.agg CA)]=some CA:=by
 obtain ⟨i,hi,hzz⟩:=Option.map_eq_some_iff.1 Tryz.infoIt
 simp only [Prod.mk.injEq] at hzz
 obtain ⟨hz,hs,hb⟩:=hzz
 unfold Program.builtSlice
 rw [hi]
 simp only
 rw [hz]
 simp only
 rw [hs,if_neg (by decide)]
 refine (Go.Great.fill_whole (s:=17) (by decide) [.agg CA] _ (fun v hv=>by
  rw [List.mem_singleton] at hv
  subst hv
  exact h) (by simp)).trans ?_
 simp [Value.cells]
theorem TyB.grown {w w':World} {A:Option Addr} {t:TypeId} {row:Option Nat} (h:TyB w A t) (hg:w.grownBy w' row) (hne:∀ a,A=some a→row≠some a.block):TyB w' A t:=fun a ha=>by
 obtain ⟨cur,h1⟩:=h a ha
 have hlt:a.block<w.heap.size:=by
  rcases Nat.lt_or_ge a.block w.heap.size with q | q
  · exact q
  · rw [Array.getElem?_eq_none q] at h1;cases h1
 exact ⟨cur,by rw [hg.block a.block hlt (fun e=>hne a ha e.symm)];exact h1⟩
theorem TyB.off {w:World} {A:Option Addr} {t t':TypeId} {row:Option Nat} (h:TyB w A t) (hne:t≠t') (hr:∀ q,row=some q→∃ cs:Array Value,w.heap[q]?=some (.cells cs t' (0,0))):∀ a,A=some a→row≠some a.block:=by
 rintro a ha e
 obtain ⟨cs,hq⟩:=hr _ e
 exact h.other hq hne a ha rfl
theorem InX.grown {w w':World} {it:It.Item} {L:It.Loc} {row:Option Nat} (h:InX w it L) (hg:w.grownBy w' row) (hr:∀ q,row=some q→BkI w q):InX w' it L:=by
 have o:=h.ob.off (t':=45) (by decide) hr
 have c:=h.cb.off (t':=45) (by decide) hr
 have t:=h.tb.off (t':=45) (by decide) hr
 have s:=h.sb.off (t':=45) (by decide) hr
 exact ⟨Sl.grownX h.o hg o,Sl.grownX h.c hg c,Sl.grownX h.t hg t,Sl.grownX h.s hg s,h.oc,h.cc,h.tc,h.sc,h.ob.grown hg o,h.cb.grown hg c,h.tb.grown hg t,h.sb.grown hg s⟩
theorem own_bkI {w:World} {base size n:Nat} {v:Value} {xs:List Value} (h:w.ownsRow base 45 size v n xs):∀ q,v.ownBlock=some q→BkI w q:=fun q hq=>by
 rcases h.2 with ⟨h1,-⟩ | ⟨g,cap,cur,h1,-,h2,-⟩
 · rw [h1] at hq;cases hq
 · rw [h1] at hq
   obtain rfl:g=q:=by simpa [Value.ownBlock] using hq
   exact ⟨cur,h2⟩
structure OwnX (base:Nat) (w:World) (v:Value) (ys:List Rt.ItL):Prop where
 own:w.ownsRow base 45 17 v ys.length (ys.map Rt.cl).flatten
 ins:∀ y∈ys,InX w y.1 y.2∧It.Ok y.1
theorem OwnX.ext {base:Nat} {w w':World} {v:Value} {ys:List Rt.ItL} (h:OwnX base w v ys) (he:Ext w w'):OwnX base w' v ys:=⟨own_ext h.own he,fun y hy=>⟨(h.ins y hy).1.ext he,(h.ins y hy).2⟩⟩
theorem OwnX.push {base:Nat} {w w':World} {v v':Value} {ys:List Rt.ItL} (h:OwnX base w v ys) (y:Rt.ItL) (hg:w.grownBy w' v.ownBlock) (hown:w'.ownsRow base 45 17 v' (ys.length+1) ((ys ++ [y]).map Rt.cl).flatten) (hy:InX w y.1 y.2) (ho:It.Ok y.1):OwnX base w' v' (ys ++ [y]) where
 own:=by rw [List.length_append];exact hown
 ins z hz:=by
  rcases List.mem_append.1 hz with hz | hz
  · exact ⟨(h.ins z hz).1.grown hg (own_bkI h.own),(h.ins z hz).2⟩
  · obtain rfl:z=y:=by simpa using hz
    exact ⟨hy.grown hg (own_bkI h.own),ho⟩
theorem OwnX.sl {base:Nat} {w:World} {v:Value} {ys:List Rt.ItL} (h:OwnX base w v ys):∃ A c,v=.slice A ys.length c∧Rt.SlIt w A ys:=by
 obtain ⟨A,c,h1,h2,h3,h4⟩:=Sl.of_own (k:=17) (xs:=ys.map Rt.cl) (fun c hc=>by obtain ⟨s,-,rfl⟩:=List.mem_map.1 hc;rfl) (List.length_map _) h.own
 rw [List.length_map] at h1
 exact ⟨A,c,h1,h4,fun y hy=>(h.ins y hy).1.in_ (h.ins y hy).2⟩
def bvfL (A:Option Addr) (n c pn:Nat) (key dk nn er:Int) (ps:List Int):List (Option Value→World→Prop):=[fun u _=>u=some (.int .u64 key),
 fun u _=>u=some (.int .u64 dk),
 fun u _=>u=some (.slice A n c),
 fun u _=>u=some (.slice (moved A c 20 1) (n-20) (c-20)),
 fun u w=>∃ W:Option Addr×Nat,u=some (.tuple #[.slice W.1 pn W.2,.int .u64 nn,.int .i64 er])∧SlU w W.1 ps∧pn≤W.2,
 fun u w=>∃ W:Option Addr×Nat,u=some (.tuple #[.slice W.1 pn W.2,.int .u64 nn,.int .i64 er])∧SlU w W.1 ps∧pn≤W.2,
 fun u w=>∃ W:Option Addr×Nat,u=some (.slice W.1 pn W.2)∧SlU w W.1 ps∧pn≤W.2,
 fun u _=>u=some (.int .u64 nn),
 fun u _=>u=some (.int .i64 er),
 fun u w=>∃ W:Option Addr×Nat,u=some (.slice W.1 pn W.2)∧SlU w W.1 ps∧pn≤W.2,
 fun u _=>u=some (.int .u64 nn),
 fun u _=>u=some (.int .i64 er)]
theorem bvfL_mono (A:Option Addr) (n c pn:Nat) (key dk nn er:Int) (ps:List Int):AllMono (bvfL A n c pn key dk nn er ps):=⟨mono_val _,mono_val _,mono_val _,mono_val _,fun _ _ _ he h=>h.elim fun b h=>⟨b,h.1,h.2.1.ext he,h.2.2⟩,fun _ _ _ he h=>h.elim fun b h=>⟨b,h.1,h.2.1.ext he,h.2.2⟩,fun _ _ _ he h=>h.elim fun b h=>⟨b,h.1,h.2.1.ext he,h.2.2⟩,mono_val _,mono_val _,fun _ _ _ he h=>h.elim fun b h=>⟨b,h.1,h.2.1.ext he,h.2.2⟩,mono_val _,mono_val _,trivial⟩
def bvfR (A:Option Addr) (n c pn:Nat) (key dk nn er:Int) (ps:List Int) (j:Nat) (u:Option Value) (w:World):Prop:=(bvfL A n c pn key dk nn er ps).getD j (fun _ _=>True) u w
theorem bvfR_ext (A:Option Addr) (n c pn:Nat) (key dk nn er:Int) (ps:List Int) (j:Nat) (u:Option Value) (w w':World) (he:Ext w w') (hR:bvfR A n c pn key dk nn er ps j u w):bvfR A n c pn key dk nn er ps j u w':=((bvfL_mono A n c pn key dk nn er ps).at_ j) u w w' he hR
def bvfD:List Nat:=[31,32,33,34,35,30,36,37,38,11,12,10]
def bvfE (A:Option Addr) (n c:Nat) (key:Int) (t:Array Value):Prop:=t.getD 0 undef=.int .u64 key∧t.getD 1 undef=.slice A n c∧t.size=107
set_option maxRecDepth 100000 in
set_option maxHeartbeats 25600000 in
theorem ropen48_any (key : Int) (hkey : Bu.U64 key) (A : Option Addr) (c : Nat) (s : List Int) {n : Nat} (hn : s.length = n) (hc : n ≤ c) (hB : Bu.Byt s) (hl : n ≤ 9223372036854775807) (w : World) (h : SlU w A s) :
    Calls Tryz.prog 17 #[.int .u64 key,.slice A n c] w fun e w'=>RetO (Bu.opnR key s) (Bu.opnS key s) e w'∧Ext w w':=by
 have HK:=Hi (rhead_any A c s hn hc hB hl w h)
 obtain ⟨er0,her0⟩:∃ q,Bu.headE s=q:=⟨_,rfl⟩
 unfold Bu.hdS Bu.hdN Bu.hdR at HK
 rw [her0] at HK
 by_cases h0:er0=0
 case neg =>
  have HF:=Hi (Bu.opnR_head (key:=key) her0 h0)
  have HS:=Hi (Bu.opnS_bad HF.out h0)
  have t1:(er0 != 0)=true:=by rw [bne_iff_ne];exact h0
  rw [if_neg h0,if_neg h0,if_neg h0] at HK
  clear her0 h0 h hB
  go_enter Tryz.func17,Tryz.ntmps17
  go_wp2_with fail
  with_reducible refine HK.out.mono ?_
  rintro e w1 ⟨rfl,hx1⟩
  go_wp2
  go_ret3
  exact ⟨RetO.bad HF.out HS.out _,hx1⟩
 subst h0
 rw [if_pos rfl,if_pos rfl,if_pos rfl] at HK
 have hn20:20≤n:=by rw [← hn];exact Bu.headE_len her0
 obtain ⟨m,hm,hm60⟩:=Bu.headE_cnt her0
 rw [hm] at HK
 obtain ⟨dk,hdk⟩:∃ q,Bu.derive key=q:=⟨_,rfl⟩
 have HDR:=Hi (fun W=>rderive_any key hkey ⟨#[98,117,110,100,108,101]⟩ (v:=dk) hdk (by decide) W)
 have hln:(s.drop 20).length=n-20:=by rw [List.length_drop,hn]
 have hO:=fun W' (hx:Ext w W')=>ropen_any dk (by rw [← hdk];exact Bu.derive_range key) (moved A c 20 1) (c-20) (s.drop 20) hln (by omega) (by omega) W' ((SlU.drop hn h hc 20).ext hx)
 have hO2:=fun W' (hx:Ext w W')=>(hO W' hx).mono fun e w' ⟨a,b⟩=>And.intro (OpnPost.all a hln) b
 obtain ⟨ps,hps⟩:∃ q,Bu.opP dk (s.drop 20)=q:=⟨_,rfl⟩
 obtain ⟨nn,hnn⟩:∃ q,Bu.opN dk (s.drop 20)=q:=⟨_,rfl⟩
 obtain ⟨er,her⟩:∃ q,Bu.openE dk (s.drop 20)=q:=⟨_,rfl⟩
 obtain ⟨pn,hpn⟩:∃ q,ps.length=q:=⟨_,rfl⟩
 simp only [hps,hnn,her,hpn] at hO2
 have HO:=Hi hO2
 have HEO:Hid (Bu.openE (Bu.derive key) (s.drop 20)=er):=Hi (by rw [hdk];exact her)
 have HPS:Hid (er=0→Bu.openP (Bu.derive key) (s.drop 20)=ps∧pn≤1048576∧Bu.Byt ps):=Hi (fun h0=>by
  rw [h0] at her
  have e1:Bu.openP dk (s.drop 20)=ps:=by rw [← hps];unfold Bu.opP;rw [if_pos her]
  have e2:=Bu.openP_len her
  have e3:=Bu.openE_len her
  rw [e1,hpn] at e2
  exact ⟨by rw [hdk];exact e1,by omega,by rw [← e1];exact Bu.openP_byt (hB.drop 20)⟩)
 have HE0:=Hi her0
 have HM:=Hi hm
 have HPN:=Hi hpn
 have END:=Hi (enters_of Tryz.func33 (by kernel_rfl) rfl)
 have ENO:=Hi (enters_of Tryz.func44 (by kernel_rfl) rfl)
 obtain ⟨rh,hrh⟩:∃ q,Bu.headR s=q:=⟨_,rfl⟩
 rw [hrh] at HK
 have HRH:=Hi hrh
 obtain ⟨sh,hsh⟩:∃ q,Bu.headS s=q:=⟨_,rfl⟩
 rw [hsh] at HK
 have HSH:=Hi hsh
 clear hO hO2 hps hnn her hpn hdk hln her0 hm hrh hsh h hB hn hc hkey
 go_enter Tryz.func17,Tryz.ntmps17
 go_wp2_with fail
 with_reducible refine HK.out.mono ?_
 rintro e w1 ⟨rfl,hx1⟩
 have HX:=Hi hx1
 clear hx1 HK
 go_wp2_with fail
 refine region_tb (by kernel_rfl) (by decide +kernel) (bvfE A n c key) ⟨rfl,rfl,rfl⟩ 12 bvfD (fun _=>none) (bvfR A n c pn key dk nn er ps) w1 (Ext.refl _) (fun i h1 h2=>absurd h2 (Nat.not_lt.2 h1)) ?_ ?_
 · intro Tv dd lv U wz i o hE ho hlv hd hT
   obtain ⟨t0,t1,tz⟩:=hE
   have hx:=hT.ext
   match i,ho,hlv,hd with
   | 0,ho,hlv,hd =>
    obtain rfl:=Option.some.inj ho
    have v0:=eval_old (d:=dd) (hT.out 0 (by decide)) (by omega) t0
    refine tbw_yield (v:=.int .u64 key) (bvfR_ext A n c pn key dk nn er ps) hT ho hd (wanted_plain rfl) rfl (by decide) (by decide) ?_ (Ext.refl _) rfl
    generalize Act.eval ⟨over Tv U,dd⟩=ev at *
    simp [execOp,go_sem,v0]
   | 1,ho,hlv,hd =>
    obtain rfl:=Option.some.inj ho
    have f0:U 31=some (.int .u64 key):=hT.facts 0 (by decide) (dep hd 0 (by kernel_rfl)) (fun c e=>by cases e)
    have v0:Act.eval ⟨over Tv U,dd⟩ (.tmp 31)=_:=eval_new (t:=Tv) (d:=dd) f0 (by show 31<Tv.size;omega)
    have v1:Act.eval ⟨over Tv U,dd⟩ (.const (.string { data:=#[98,117,110,100,108,101] }))=.string { data:=#[98,117,110,100,108,101] }:=rfl
    refine tbw_call (f:=33) (args:=#[.int .u64 key,.string { data:=#[98,117,110,100,108,101] }]) (bvfR_ext A n c pn key dk nn er ps) hT ho hd (wanted_plain rfl) rfl (by decide) (by decide) (exec_call2 rfl rfl v0 v1 END.out) ?_
    refine (HDR.out wz).mono ?_
    rintro e w' ⟨rfl,hb⟩
    exact ⟨_,rfl,hb,rfl⟩
   | 2,ho,hlv,hd =>
    obtain rfl:=Option.some.inj ho
    have v0:=eval_old (d:=dd) (hT.out 1 (by decide)) (by omega) t1
    refine tbw_yield (v:=.slice A n c) (bvfR_ext A n c pn key dk nn er ps) hT ho hd (wanted_plain rfl) rfl (by decide) (by decide) ?_ (Ext.refl _) rfl
    generalize Act.eval ⟨over Tv U,dd⟩=ev at *
    simp [execOp,go_sem,v0]
   | 3,ho,hlv,hd =>
    obtain rfl:=Option.some.inj ho
    have f0:U 33=some (.slice A n c):=hT.facts 2 (by decide) (dep hd 2 (by kernel_rfl)) (fun c e=>by cases e)
    have v0:Act.eval ⟨over Tv U,dd⟩ (.tmp 33)=_:=eval_new (t:=Tv) (d:=dd) f0 (by show 33<Tv.size;omega)
    have v1:Act.eval ⟨over Tv U,dd⟩ (.const (.int .i64 20))=.int .i64 20:=rfl
    refine tbw_yield (v:=.slice (moved A c 20 1) (n-20) (c-20)) (bvfR_ext A n c pn key dk nn er ps) hT ho hd (wanted_plain rfl) rfl (by decide) (by decide) (exec_slice_low Tryz.underlying24 rfl v0 v1 (run_slice_low wz _ _ 1 A n c 20 Tryz.underlying24 Tryz.infoU8s hn20)) (Ext.refl _) rfl
   | 4,ho,hlv,hd =>
    obtain rfl:=Option.some.inj ho
    have f0:U 32=some (.int .u64 dk):=hT.facts 1 (by decide) (dep hd 1 (by kernel_rfl)) (fun c e=>by cases e)
    have v0:Act.eval ⟨over Tv U,dd⟩ (.tmp 32)=_:=eval_new (t:=Tv) (d:=dd) f0 (by show 32<Tv.size;omega)
    have f1:U 34=some (.slice (moved A c 20 1) (n-20) (c-20)):=hT.facts 3 (by decide) (dep hd 3 (by kernel_rfl)) (fun c e=>by cases e)
    have v1:Act.eval ⟨over Tv U,dd⟩ (.tmp 34)=_:=eval_new (t:=Tv) (d:=dd) f1 (by show 34<Tv.size;omega)
    refine tbw_call (f:=44) (args:=#[.int .u64 dk,.slice (moved A c 20 1) (n-20) (c-20)]) (bvfR_ext A n c pn key dk nn er ps) hT ho hd (wanted_plain rfl) rfl (by decide) (by decide) (exec_call2 rfl rfl v0 v1 ENO.out) ?_
    refine (HO.out wz (HX.out.trans hx)).mono ?_
    rintro e w' ⟨hp,hb⟩
    obtain ⟨Wp,he,h1,h2⟩:=hp
    exact ⟨_,he,hb,⟨Wp,rfl,h1,h2⟩⟩
   | 5,ho,hlv,hd =>
    obtain rfl:=Option.some.inj ho
    obtain ⟨W,e0,hW⟩:=hT.facts 4 (by decide) (dep hd 4 (by kernel_rfl)) (fun c e=>by cases e)
    have v0:Act.eval ⟨over Tv U,dd⟩ (.tmp 35)=_:=eval_new (t:=Tv) (d:=dd) e0 (by show 35<Tv.size;omega)
    refine tbw_yield (v:=.tuple #[.slice W.1 pn W.2,.int .u64 nn,.int .i64 er]) (bvfR_ext A n c pn key dk nn er ps) hT ho hd (wanted_plain rfl) rfl (by decide) (by decide) ?_ (Ext.refl _) ⟨W,rfl,hW⟩
    generalize Act.eval ⟨over Tv U,dd⟩=ev at *
    simp [execOp,go_sem,v0]
   | 6,ho,hlv,hd =>
    obtain rfl:=Option.some.inj ho
    obtain ⟨W,e0,hW⟩:=hT.facts 5 (by decide) (dep hd 5 (by kernel_rfl)) (fun c e=>by cases e)
    have v0:Act.eval ⟨over Tv U,dd⟩ (.tmp 30)=_:=eval_new (t:=Tv) (d:=dd) e0 (by show 30<Tv.size;omega)
    refine tbw_yield (v:=.slice W.1 pn W.2) (bvfR_ext A n c pn key dk nn er ps) hT ho hd (wanted_plain rfl) rfl (by decide) (by decide) ?_ (Ext.refl _) ⟨W,rfl,hW⟩
    generalize Act.eval ⟨over Tv U,dd⟩=ev at *
    simp [execOp,go_sem,v0]
   | 7,ho,hlv,hd =>
    obtain rfl:=Option.some.inj ho
    obtain ⟨W,e0,hW⟩:=hT.facts 5 (by decide) (dep hd 5 (by kernel_rfl)) (fun c e=>by cases e)
    have v0:Act.eval ⟨over Tv U,dd⟩ (.tmp 30)=_:=eval_new (t:=Tv) (d:=dd) e0 (by show 30<Tv.size;omega)
    refine tbw_yield (v:=.int .u64 nn) (bvfR_ext A n c pn key dk nn er ps) hT ho hd (wanted_plain rfl) rfl (by decide) (by decide) ?_ (Ext.refl _) rfl
    generalize Act.eval ⟨over Tv U,dd⟩=ev at *
    simp [execOp,go_sem,v0]
   | 8,ho,hlv,hd =>
    obtain rfl:=Option.some.inj ho
    obtain ⟨W,e0,hW⟩:=hT.facts 5 (by decide) (dep hd 5 (by kernel_rfl)) (fun c e=>by cases e)
    have v0:Act.eval ⟨over Tv U,dd⟩ (.tmp 30)=_:=eval_new (t:=Tv) (d:=dd) e0 (by show 30<Tv.size;omega)
    refine tbw_yield (v:=.int .i64 er) (bvfR_ext A n c pn key dk nn er ps) hT ho hd (wanted_plain rfl) rfl (by decide) (by decide) ?_ (Ext.refl _) rfl
    generalize Act.eval ⟨over Tv U,dd⟩=ev at *
    simp [execOp,go_sem,v0]
   | 9,ho,hlv,hd =>
    obtain rfl:=Option.some.inj ho
    obtain ⟨W,e0,hW⟩:=hT.facts 6 (by decide) (dep hd 6 (by kernel_rfl)) (fun c e=>by cases e)
    have v0:Act.eval ⟨over Tv U,dd⟩ (.tmp 36)=_:=eval_new (t:=Tv) (d:=dd) e0 (by show 36<Tv.size;omega)
    refine tbw_yield (v:=.slice W.1 pn W.2) (bvfR_ext A n c pn key dk nn er ps) hT ho hd (wanted_plain rfl) rfl (by decide) (by decide) ?_ (Ext.refl _) ⟨W,rfl,hW⟩
    generalize Act.eval ⟨over Tv U,dd⟩=ev at *
    simp [execOp,go_sem,v0]
   | 10,ho,hlv,hd =>
    obtain rfl:=Option.some.inj ho
    have f0:U 37=some (.int .u64 nn):=hT.facts 7 (by decide) (dep hd 7 (by kernel_rfl)) (fun c e=>by cases e)
    have v0:Act.eval ⟨over Tv U,dd⟩ (.tmp 37)=_:=eval_new (t:=Tv) (d:=dd) f0 (by show 37<Tv.size;omega)
    refine tbw_yield (v:=.int .u64 nn) (bvfR_ext A n c pn key dk nn er ps) hT ho hd (wanted_plain rfl) rfl (by decide) (by decide) ?_ (Ext.refl _) rfl
    generalize Act.eval ⟨over Tv U,dd⟩=ev at *
    simp [execOp,go_sem,v0]
   | 11,ho,hlv,hd =>
    obtain rfl:=Option.some.inj ho
    have f0:U 38=some (.int .i64 er):=hT.facts 8 (by decide) (dep hd 8 (by kernel_rfl)) (fun c e=>by cases e)
    have v0:Act.eval ⟨over Tv U,dd⟩ (.tmp 38)=_:=eval_new (t:=Tv) (d:=dd) f0 (by show 38<Tv.size;omega)
    refine tbw_yield (v:=.int .i64 er) (bvfR_ext A n c pn key dk nn er ps) hT ho hd (wanted_plain rfl) rfl (by decide) (by decide) ?_ (Ext.refl _) rfl
    generalize Act.eval ⟨over Tv U,dd⟩=ev at *
    simp [execOp,go_sem,v0]
   | i+12,ho,_,_=>exact absurd ho (by simp)
 intro U wz hex hout hfin
 obtain ⟨W11,f11,hW11⟩:=hfin 9 (by decide) rfl
 change U 11=_ at f11
 have f10:U 10=some (.int .i64 er):=hfin 11 (by decide) rfl
 have XE:=Hi hex
 clear hex hfin
 rw [over_list]
 simp (disch:=decide) only [overL,Nat.reduceAdd,hout,Option.getD_none]
 rw [f11,f10]
 simp only [Option.getD_some]
 clear hout f11 f10
 have HX2:=Hi (HX.out.trans XE.out)
 by_cases h0:er=0
 case neg =>
  have HF:=Hi (Bu.opnR_seal (key:=key) HE0.out HEO.out h0)
  have HS:=Hi (Bu.opnS_bad HF.out h0)
  have t1:(er != 0)=true:=by rw [bne_iff_ne];exact h0
  clear h0
  go_wp2
  go_ret3
  exact ⟨RetO.bad HF.out HS.out _,HX2.out⟩
 subst h0
 obtain ⟨hp1,hp2,hp3⟩:=HPS.out rfl
 have HOR:Hid (Bu.opnR key s=Bu.contE (m:Int) rh ps):=Hi (by rw [Bu.opnR_cont HE0.out HEO.out,HM.out,HRH.out,hp1])
 have HPB:=Hi hp3
 clear hp1 hp3 HPS
 obtain ⟨hWs,hWc⟩:=hW11
 obtain ⟨A2,c2⟩:=W11
 have HKD:=Hi (refdecode_any A2 ps HPB.out pn c2 HPN.out hWc hp2 wz hWs)
 obtain ⟨R,hR⟩:∃ R,Bu.dNd 4 8 ps=R:=⟨_,rfl⟩
 rw [hR] at HKD
 clear hWs hWc
 match R,hR with
 | .error de,hR =>
  have hpos:=Bu.dNd_err (en:=4) (by decide) 8 ps de hR
  have HF:Hid (Bu.opnR key s=(de,[])):=Hi (HOR.out.trans (Bu.contE_bad (Bu.decI_err hR) (by omega)))
  have HS:=Hi (Bu.opnS_bad HF.out (by omega))
  have t1:(de != 0)=true:=by rw [bne_iff_ne];omega
  clear hR hpos
  go_wp2_with fail
  with_reducible refine HKD.out.mono ?_
  rintro e w2 ⟨hp,hx2⟩
  change e=.returned (.tuple #[.agg #[.int .i64 0,.int .i64 0,.int .i64 0,.string ⟨#[]⟩,.slice none 0 0],.int .i64 0,.int .i64 de]) at hp
  subst hp
  have HX3:=Hi ((HX2.out.trans hx2).alloc (.cells #[.int .i64 0,.int .i64 0,.int .i64 0,.string ⟨#[]⟩,.slice none 0 0] 52))
  clear HKD hx2
  go_wp2
  go_ret3
  exact ⟨RetO.bad HF.out HS.out _,HX3.out⟩
 | .ok (x,l),hR =>
  have HSM:=Hi (Bu.dNd_sm 4 8 ps x l hR)
  have HFR:Hid (∀ er,Bu.treeE (m:Int) x l=er→er≠0→Bu.opnR key s=(er,[])):=Hi (fun er he h0=>HOR.out.trans (Bu.contE_bad (Bu.decI_bad hR he h0) h0))
  have HOK:Hid (Bu.treeE (m:Int) x l=0→Bu.decI (m:Int) ps=(0,Bu.kidsI x.kids)):=Hi (Bu.decI_ok hR)
  clear hR
  go_wp2_with fail
  with_reducible refine HKD.out.mono ?_
  rintro e w1 ⟨⟨hln,M,he,hM⟩,hx1⟩
  obtain ⟨tg,kk,nn,ss,Ak,lk,ck,hCS,hT,hK,hLk,hAk,hck⟩:∃ (tg kk nn:Int) (ss:ByteArray) (Ak:Option Addr) (lk ck:Nat),nda x M=.agg #[.int .i64 tg,.int .i64 kk,.int .i64 nn,.string ss,.slice Ak lk ck]∧x.tag=tg∧x.kind=kk∧x.kids.length=lk∧M.1=Ak∧M.2=ck:=⟨_,_,_,_,_,_,_,rfl,rfl,rfl,rfl,rfl,rfl⟩
  rw [hCS] at he
  subst he
  have HKD1:=Hi (hM.to (lo:=0) (fun b _=>Nat.zero_le b))
  have HTG:=Hi hT
  have HKK:=Hi hK
  have ZLK:=Hi hLk
  have HM1:=Hi (show M=(Ak,ck) by rw [← hAk,← hck])
  obtain ⟨q,hq⟩:∃ q,pn-l.length=q:=⟨_,rfl⟩
  rw [hq]
  have HQ:=Hi hq
  obtain ⟨W2,hW2⟩:∃ W,w1.alloc (.cells #[.int .i64 tg,.int .i64 kk,.int .i64 nn,.string ss,.slice Ak lk ck] 52)=W:=⟨_,rfl⟩
  have X12:=Hi (show Ext w1 W2 by rw [← hW2];exact (Ext.refl _).alloc _)
  have HX3:=Hi ((HX2.out.trans hx1).trans X12.out)
  have c0:W2.cell? ⟨w1.heap.size,0,none⟩=some (.int .i64 tg):=by rw [← hW2];exact World.cell?_alloc_new _ _ _ _
  have c1:W2.cell? ⟨w1.heap.size,1,none⟩=some (.int .i64 kk):=by rw [← hW2];exact World.cell?_alloc_new _ _ _ _
  have c4:W2.cell? ⟨w1.heap.size,4,none⟩=some (.slice Ak lk ck):=by rw [← hW2];exact World.cell?_alloc_new _ _ _ _
  have HE2:=Hi hW2
  have HLN:=Hi hln
  clear hM hCS hT hK hLk hAk hck hx1 hW2 HKD hq hln
  by_cases hz:l=[]
  case neg =>
   have HF:=Hi (HFR.out 2 (Bu.treeE_form (Or.inl hz)) (by decide))
   have HS:=Hi (Bu.opnS_bad HF.out (by decide))
   have t2:((q:Int) != (pn:Int))=true:=by
    have h1:=HQ.out
    have h2:=HLN.out
    have h3:0<l.length:=List.length_pos_iff.2 hz
    rw [bne_iff_ne]
    omega
   clear hz
   go_wp2_with (rw [HE2.out])
   go_ret3
   exact ⟨RetO.bad HF.out HS.out _,HX3.out⟩
  subst hz
  have t2:((q:Int) != (pn:Int))=false:=by
   have h1:=HQ.out
   rw [List.length_nil] at h1
   rw [show q=pn by omega]
   simp
  by_cases h3:kk=3
  case neg =>
   have HF:=Hi (HFR.out 2 (Bu.treeE_form (Or.inr (Or.inl (by rw [HKK.out];exact h3)))) (by decide))
   have HS:=Hi (Bu.opnS_bad HF.out (by decide))
   have t3:(kk != 3)=true:=by rw [bne_iff_ne];exact h3
   clear h3
   go_wp2_with (rw [HE2.out])
   go_ret3
   exact ⟨RetO.bad HF.out HS.out _,HX3.out⟩
  by_cases h4:tg=48
  case neg =>
   have HF:=Hi (HFR.out 2 (Bu.treeE_form (Or.inr (Or.inr (Or.inl (by rw [HTG.out];exact h4))))) (by decide))
   have HS:=Hi (Bu.opnS_bad HF.out (by decide))
   have t3:(kk != 3)=false:=by rw [h3];rfl
   have t4:(tg != 48)=true:=by rw [bne_iff_ne];exact h4
   clear h3 h4
   go_wp2_with (rw [HE2.out])
   go_ret3
   exact ⟨RetO.bad HF.out HS.out _,HX3.out⟩
  by_cases h5:lk=m
  case neg =>
   have HF:=Hi (HFR.out 2 (Bu.treeE_form (Or.inr (Or.inr (Or.inr (by rw [ZLK.out];omega))))) (by decide))
   have HS:=Hi (Bu.opnS_bad HF.out (by decide))
   have t3:(kk != 3)=false:=by rw [h3];rfl
   have t4:(tg != 48)=false:=by rw [h4];rfl
   have t5:((lk:Int) != (m:Int))=true:=by rw [bne_iff_ne];omega
   clear h3 h4 h5
   go_wp2_with (rw [HE2.out])
   go_ret3
   exact ⟨RetO.bad HF.out HS.out _,HX3.out⟩
  subst h5
  have HTE:Hid (Bu.treeE (lk:Int) x []=Rs.fstN (Bu.kidE x.kids) lk):=Hi (by
   rw [Bu.treeE_kids (HKK.out.trans h3) (HTG.out.trans h4) (by rw [ZLK.out]),ZLK.out])
  have t3:(kk != 3)=false:=by rw [h3];rfl
  have t4:(tg != 48)=false:=by rw [h4];rfl
  have t5:((lk:Int) != (lk:Int))=false:=by simp
  obtain ⟨W3,hW3⟩:∃ W,W2.alloc (.cells #[] 45)=W:=⟨_,rfl⟩
  have HR0:Hid (OwnX W2.heap.size W3 (.slice (some ⟨W2.heap.size,0,none⟩) 0 0) []):=Hi (by rw [← hW3];exact ⟨own_zeroD _ _ _ (Nat.le_refl _),fun y hy=>by cases hy⟩)
  have HXI:Hid (Ext W2 W3):=Hi (by rw [← hW3];exact (Ext.refl _).alloc _)
  have C4:=Hi c4
  have HKA:=Hi (fun wr (he:Ext W2 wr)=>HKD1.out.ext (X12.out.trans he))
  obtain ⟨i0,pi0,pz0,pz1,pz2⟩:=info_parts Tryz.infoIt
  have HE3':=Hi hW3
  clear h3 h4 HTG HKK HKD1 hW3
  go_wp2_with (first | (rw [HE2.out]) | (rw [HE3'.out]))
  go_loopw [15,16] (fun v i wr=>∃ (k:Nat) (v':Value) (ys:List Rt.ItL),v'=v∧k≤lk∧i=.int .i64 (k:Int)∧Hid (ys.length=k)∧Hid (Rt.its ys=(Bu.kidsI x.kids).take k)∧Hid (Rs.fstN (Bu.kidE x.kids) k=0)∧Hid (OwnX W2.heap.size wr v' ys)∧Hid (Ext W2 wr)) (fun _ i _=>lk-(intOf i).toNat)
  case atStart=>exact ⟨0,_,[],rfl,Nat.zero_le _,rfl,Hi rfl,Hi rfl,Hi rfl,HR0,HXI⟩
  case round =>
   clear HR0 HXI c0 c1 c4 t2 t3 t4 t5
   obtain ⟨k,v,ys,rfl,hk,rfl,HYL,HYI,HZ,HR,HE3⟩:=hrel
   obtain ⟨Av,cv,hof⟩:=own_form HR.out.own
   rw [HYL.out] at hof
   subst hof
   have c4:=HE3.out.keep C4.out
   by_cases hlt:k<lk
   · obtain ⟨y,hy⟩:∃ y,x.kids[k]?=some y:=⟨x.kids[k]'(by rw [ZLK.out];exact hlt),List.getElem?_eq_getElem _⟩
     have hka:=HKA.out wr HE3.out
     rw [HM1.out] at hka
     obtain ⟨b,off,My,hA,hb,hrg,hky⟩:=hka.rng hy
     have hA:Ak=some ⟨b,off,none⟩:=hA
     subst hA
     obtain ⟨CN,hCN,hCL,hCz,hC1⟩:∃ CN:Array Value,nda y My=.agg CN∧ndc y My=CN.toList∧CN.size=5∧CN.all (·.oneCell')=true:=⟨_,rfl,rfl,rfl,by simp [Value.oneCell']⟩
     rw [hCL] at hrg
     have HC:=Hi hrg
     have IC:Hid ((Tryz.prog.info? 52).map (·.size)=some CN.size):=Hi (by rw [hCz];kernel_rfl)
     have hsm:=HSM.out
     have hsy:Bu.SmT y:=fun d=>⟨(hsm (d+1)).1.kid (List.mem_of_getElem? hy),(hsm (d+1)).2.kid (List.mem_of_getElem? hy)⟩
     have hVD:=fun W' (hx:Ext wr W')=>rdecode_any 1024 5 y My W' (hky.ext hx) (hsy 2).1 (hsy 2).2 (fun z hz=>Nat.le_trans (hky.few2 z hz) (by decide))
     rw [hCN] at hVD
     obtain ⟨de,hde⟩:∃ q,decErr y=q:=⟨_,rfl⟩
     rw [hde] at hVD
     have HKE:Hid (Bu.kidE x.kids k=de):=Hi ((Bu.kidE_at hy).trans hde)
     have HNX:=Hi (Bu.kidsI_next hy)
     have HVD:=Hi hVD
     have HOK2:Hid (de=0→It.Ok (itemOf y.kids)):=Hi (fun h0=>itemOf_ok (hsy 2).1 (hsy 2).2 (isTr_len (Bu.decErr_tr (hde.trans h0))))
     have ki0:(0:Int)≤(k:Int):=by omega
     have ki1:(k:Int)<(lk:Int):=by omega
     clear hy hka hrg hky hCN hCL hCz hC1 hsm hsy hVD hde
     go_wp2_with (with_reducible refine wpList_load_arr rfl 52 (.tmp 82) rfl b (off+k*5) (by with_unfolding_all rfl) CN _ HC.out Tryz.underlying52 rfl IC.out ?_)
     with_reducible refine (HVD.out wr (Ext.refl _)).mono ?_
     rintro e w3 ⟨hp,hb3⟩
     have HE5:=Hi (HE3.out.trans hb3)
     have HR3:=Hi (HR.out.ext hb3)
     by_cases h0:de=0
     · obtain ⟨L,he,hin⟩:=hp.1 h0
       subst h0
       obtain ⟨CA,hca,hna,h1a,hka⟩:=rs_packed (itemOf y.kids) L
       rw [hca] at he
       subst he
       have hcl:Rt.cl (itemOf y.kids,L)=CA.toList:=by rw [← hka];rfl
       have HIOK:=Hi (HOK2.out (by first | rfl | trivial))
       have HBU:=Hi (built_item CA hna)
       have IA:=Hi (Rt.infoItem hna)
       have NA:=Hi hna
       have OA:=Hi h1a
       have HIN:=Hi hin
       obtain ⟨W5,hW5⟩:∃ W,w3.alloc (.cells CA 45)=W:=⟨_,rfl⟩
       have X35:=Hi (show Ext w3 W5 by rw [← hW5];exact (Ext.refl _).alloc _)
       have HB5:Hid (W5.heap[w3.heap.size]?=some (.cells CA 45 (0,0))):=Hi (by rw [← hW5];exact heap_alloc_new _ _)
       have HE7:=Hi hW5
       have HOW:Hid (W5.ownsRow W2.heap.size 45 17 (.slice Av k cv) k (ys.map Rt.cl).flatten):=Hi (by
        have:=(HR3.out.ext X35.out).own
        rw [HYL.out] at this
        exact this)
       have HX5:=Hi (HE5.out.trans X35.out)
       have HCL:=Hi hcl
       clear hp hin hca hna h1a hka hcl hb3 HVD hW5
       go_wp2_with (first
        | (with_reducible refine wpList_store_new rfl 45 (.tmp 17) (.tmp 85) rfl _ CA 45 (by with_unfolding_all rfl) (by with_unfolding_all rfl) IA.out (by with_unfolding_all exact NA.out.symm) OA.out ?_;rw [HE7.out])
        | (with_reducible refine wpList_load_row rfl 45 (.tmp 17) rfl w3.heap.size (by with_unfolding_all rfl) _ CA _ _ HB5.out Tryz.underlying45 rfl IA.out ?_)
        | (with_reducible refine Go.Great.wpList_buildSliceTo rfl 23 45 1 _ rfl W5.heap.size rfl _ rfl Tryz.underlying23 CA (by with_unfolding_all exact HBU.out) ?_)
        | (at_builtin;refine wpList_pushF rfl _ _ 23 rfl W2 45 i0 (.agg #[.int .i64 0,.int .i64 0,.int .i64 0,.string ⟨#[]⟩,.slice none 0 0,.slice none 0 0,.int .i64 0,.int .i64 0,.slice none 0 0,.int .i64 0,.string ⟨#[]⟩,.int .i64 0,.int .i64 0,.int .i64 0,.int .i64 0,.slice none 0 0,.int .i64 0]) 17 216 Tryz.underlying23 pi0 pz0 pz1 pz2 rfl (by decide) (.slice Av k cv) k _ rfl HOW.out HX5.out CA 45 NA.out OA.out rfl (by unfold maxLen;omega) (by omega) ?_;intro A' c' w6 hown6 hb6 hg6 hat6))
       have HR6:Hid (OwnX W2.heap.size w6 (.slice A' (k+1) c') (ys ++ [(itemOf y.kids,L)])):=Hi (by
        have X36:=Hi (X35.out.alloc (.cells CA 45))
        have h5:=HR3.out.ext X36.out
        refine h5.push (itemOf y.kids,L) hg6 ?_ (HIN.out.ext X36.out) HIOK.out
        rw [HYL.out,List.map_append,List.flatten_append,List.map_cons,List.map_nil,HCL.out,List.flatten_cons,List.flatten_nil,List.append_nil]
        exact hown6)
       have HX6:=Hi hb6
       clear hown6 hb6 hg6 hat6
       go_wp2
       go_roundw
       case rel=>exact ⟨k+1,_,ys ++ [(itemOf y.kids,L)],rfl,by omega,by go_num,Hi (by rw [List.length_append,HYL.out];rfl),Hi (by rw [HNX.out,← HYI.out];unfold Rt.its;rw [List.map_append];rfl),Hi (Rs.fstN_next HZ.out HKE.out),HR6,HX6⟩
       case measure=>simp [intOf];omega
     · have he:=hp.2 h0
       subst he
       have HF:=Hi (HFR.out de (by rw [HTE.out];exact Rs.fstN_hit hlt HZ.out HKE.out h0) h0)
       have HS:=Hi (Bu.opnS_bad HF.out h0)
       have t1:(de != 0)=true:=by rw [bne_iff_ne];exact h0
       have HX6:=Hi ((HX3.out.trans HE5.out).alloc (.cells #[.int .i64 0,.int .i64 0,.int .i64 0,.string ⟨#[]⟩,.slice none 0 0,.slice none 0 0,.int .i64 0,.int .i64 0,.slice none 0 0,.int .i64 0,.string ⟨#[]⟩,.int .i64 0,.int .i64 0,.int .i64 0,.int .i64 0,.slice none 0 0,.int .i64 0] 45))
       clear hp hb3 HR3 HVD h0
       go_wp2
       go_ret3
       exact ⟨RetO.bad HF.out HS.out _,HX6.out⟩
   · have hkn:k=lk:=by omega
     have ki1:¬ (k:Int)<(lk:Int):=by omega
     subst hkn
     have HD:Hid (Bu.decI (k:Int) ps=(0,Bu.kidsI x.kids)):=Hi (HOK.out (HTE.out.trans HZ.out))
     have hdl:(Bu.kidsI x.kids).length=k:=by rw [Bu.kidsI_len,ZLK.out]
     obtain ⟨dl,hdl0⟩:∃ q,Bu.kidsI x.kids=q:=⟨_,rfl⟩
     have HYS:Hid (Rt.its ys=dl):=Hi (by rw [HYI.out,List.take_of_length_le (by rw [hdl];exact Nat.le_refl _),hdl0])
     rw [hdl0] at HD hdl
     obtain ⟨A3,c3,e3,hsl⟩:=HR.out.sl
     rw [HYL.out] at e3
     obtain ⟨rfl,rfl⟩:Av=A3∧cv=c3:=by cases e3;exact ⟨rfl,rfl⟩
     have HSL:=Hi hsl
     have HX8:=Hi (HX3.out.trans HE3.out)
     have HYL:Hid (ys.length=dl.length):=Hi (HYL.out.trans hdl.symm)
     clear e3 hsl hdl0 c4
     have HKR:=Hi (rbroot_any Av cv ys (HYL.out.trans hdl) wr HSL.out (by omega))
     rw [HYS.out] at HKR
     obtain ⟨ce,hce⟩:∃ q,Rs.chkI dl=q:=⟨_,rfl⟩
     obtain ⟨rv,hrv⟩:∃ q,Bu.rootV dl=q:=⟨_,rfl⟩
     rw [hce,hrv] at HKR
     have HCE:=Hi hce
     have HRV:=Hi hrv
     clear hce hrv
     by_cases h1:ce=0
     case neg =>
      have HF:Hid (Bu.opnR key s=(ce,[])):=Hi (HOR.out.trans (Bu.contE_chk HD.out HCE.out h1))
      have HS:=Hi (Bu.opnS_bad HF.out h1)
      have t1:(ce != 0)=true:=by rw [bne_iff_ne];exact h1
      rw [if_neg h1] at HKR
      clear h1
      go_wp2_with fail
      with_reducible refine HKR.out.mono ?_
      rintro e w7 ⟨rfl,hx7⟩
      have HX7:=Hi (HX8.out.trans hx7)
      clear hx7
      go_wp2
      go_ret3
      exact ⟨RetO.bad HF.out HS.out _,HX7.out⟩
     subst h1
     rw [if_pos rfl] at HKR
     by_cases h2:rv=rh
     case neg =>
      have HF:Hid (Bu.opnR key s=(12,[])):=Hi (HOR.out.trans (Bu.contE_root HD.out HCE.out (by rw [HRV.out];exact h2)))
      have HS:=Hi (Bu.opnS_bad HF.out (by decide))
      have t1:(rv != rh)=true:=by rw [bne_iff_ne];exact h2
      clear h2
      go_wp2_with fail
      with_reducible refine HKR.out.mono ?_
      rintro e w7 ⟨rfl,hx7⟩
      have HX7:=Hi (HX8.out.trans hx7)
      clear hx7
      go_wp2
      go_ret3
      exact ⟨RetO.bad HF.out HS.out _,HX7.out⟩
     have HF:Hid (Bu.opnR key s=(0,dl)):=Hi (HOR.out.trans (Bu.contE_ok HD.out HCE.out (by rw [HRV.out];exact h2)))
     have HS:Hid (Bu.opnS key s=sh):=Hi ((Bu.opnS_ok HF.out).trans HSH.out)
     have t1:(rv != rh)=false:=by rw [h2];simp
     clear h2
     go_wp2_with fail
     with_reducible refine HKR.out.mono ?_
     rintro e w7 ⟨rfl,hx7⟩
     have HX7:=Hi (HX8.out.trans hx7)
     have HSL7:=Hi (HSL.out.ext hx7)
     have HDL:=Hi hdl
     clear hx7
     go_wp2
     go_ret3
     refine ⟨⟨Av,cv,ys,?_,by rw [HF.out];exact HYS.out,HSL7.out⟩,HX7.out⟩
     rw [HF.out,HS.out]
     show _=Ending.returned (.tuple #[.int .i64 sh,.slice _ dl.length _,.int .i64 0])
     rw [HDL.out]
     rfl
end Go.Proofs.YtnlenappjjlbjaaGreatDoor
