/- BankReplay: for every grid and all commands the law returns true. Conditions: the library's variables lie as the row says. -/
import Derived.Test.YtfnmgcblhebdbaaGreatDoorZ44
import Derived.Test.YtfnmgcblhebdbaaGreatDoorZ47
namespace Go.Proofs.YtfnmgcblhebdbaaGreatDoor
open Go.ChangeShapes Go.WideShapes Go.ChangeAt Go.RowKit Go.Shelf
def valLaid:DataW Unit→Array Value
 | .agg l=>(l.map fun | .lit (.int k n)=>Value.int k n | .lit (.string s)=>Value.string ⟨s.toArray⟩ | _=>undef).toArray
 | _=>#[]
noncomputable def laidW (os:Os):World :=
 { World.doorLaid Tryz.prog 4000 os with heap := (World.doorLaid Tryz.prog 4000 os).heap.modify 2 fun
     | .cells _ t frozen=>.cells (valLaid Rows.laid_unicode_utf8_first) t frozen
     | o=>o }
theorem cells_of_strs{H:Type}{enc:TypeId×Value→H}{P:Program}{w:World}{base:Nat}{sp:Nat→Bool}{held:Bool}{fuel:Nat}{t e:TypeId}{n:Nat}{cs:List Value}{zs:List (List UInt8)}{p:List MemPlace}
    (ht:P.underlying t=some (.array n e)) (he:P.underlying e=some .string) (hce:P.cellsOf e=1) (hct:P.cellsOf t=n)
    (h:DataW.trod enc P w base sp held fuel t cs=some (.agg (zs.map fun z=>.lit (.string z)),p)):cs=zs.map fun z=>Value.string ⟨z.toArray⟩:=by
 cases fuel with
 | zero=>simp[DataW.trod]at h
 | succ fuel =>
  simp only[DataW.trod,ht,hce,hct,Nat.mul_one]at h;split at h
  · rename_i hl
    obtain⟨xs,hm,hx⟩:=Option.map_eq_some_iff.1 h;have hxs:xs.map (·.1)=zs.map fun z=>(DataW.lit (.string z):DataW H):=by have:=congrArg Prod.fst hx;simpa using this
    have hxl:xs.length=n:=(by simpa using Lib.mapM_length hm);have hzl:zs.length=n:=by have:=congrArg List.length hxs;simp at this;omega
    apply List.ext_getElem?;intro i;by_cases hi:i<n
    · obtain⟨b,hb,hf⟩:=Lib.mapM_at hm i i (by simp[hi]);obtain⟨s,hc,rfl,_⟩:=DataW.trod_string he hf;have h1:cs[i]?=some (.string s):=by have:=congrArg (·[0]?) hc;simpa[List.getElem?_take,List.getElem?_drop]using this
      have h2:(xs.map (·.1))[i]?=some (DataW.lit (.string s.data.toList):DataW H):=(by simp[hb]);rw[hxs]at h2;simp only[List.getElem?_map,Option.map_eq_some_iff,DataW.lit.injEq,Lit.string.injEq]at h2;obtain⟨z',hz',rfl⟩:=h2;simp[h1,hz']
    · rw[List.getElem?_eq_none (by omega),List.getElem?_eq_none (by simp;omega)]
  · cases h
theorem fld_of {W : World} {L : List (String × DataW Unit)} (h0 : laidMetH Tryz.prog L W) (hp : (L.all fun x => x.2.handleName?.isNone) = true) (e : (L.filter fun x => x.1 == "examboard/item.fields") = [("examboard/item.fields", Rows.laid_examboard_item_fields)]) : Fld W := by
 have h1:laidMet Tryz.prog L W:=by rw[← MakeChecks.laidMetH_plain Tryz.prog _ W hp];exact h0
 have h2 := h1.filter (fun x => x.1 == "examboard/item.fields")
 rw[e]at h2;obtain⟨ps,⟨g',t',cs,fuel,p,q,hg',ht',hvar,hd,_,_⟩,_⟩:=h2
 obtain rfl := Option.some.inj ((show Tryz.prog.globalNamed "examboard/item.fields" = some 0 by kernel_rfl).symm.trans hg')
 obtain rfl:=Option.some.inj ((show(Tryz.prog.globals[0]?).map (·.type)=some 171 by kernel_rfl).symm.trans ht');have hc:=cells_of_strs (zs:=[[73,100],[86,101,114,115,105,111,110],[75,105,110,100],[83,116,101,109],[79,112,116,105,111,110,115],[67,104,111,105,99,101,115],[86,97,108,117,101],[84,111,108],[84,101,120,116,115],[80,111,105,110,116,115],[67,111,110,116,101,110,116],[70,97,109,105,108,121],[83,101,116],[87,111,114,100,115],[83,101,99,111,110,100,115],[65,115,115,101,116,115],[82,117,98,114,105,99]]) Tryz.underlying171 Tryz.underlying9 (by kernel_rfl) (by kernel_rfl) hd;intro i s hi
 have := World.var?_cell (show Tryz.prog.globalNamed "examboard/item.fields" = some 0 by kernel_rfl) hvar i
 have e2:([[73,100],[86,101,114,115,105,111,110],[75,105,110,100],[83,116,101,109],[79,112,116,105,111,110,115],[67,104,111,105,99,101,115],[86,97,108,117,101],[84,111,108],[84,101,120,116,115],[80,111,105,110,116,115],[67,111,110,116,101,110,116],[70,97,109,105,108,121],[83,101,116],[87,111,114,100,115],[83,101,99,111,110,100,115],[65,115,115,101,116,115],[82,117,98,114,105,99]].map fun z=>Value.string ⟨z.toArray⟩)=fldNames.map Value.string:=rfl;rw[this,← Array.getElem?_toList,hc,e2];simp[hi]
theorem bankReplay_laid(os:Os):laidMet Tryz.prog Rows.bankReplayRow.laid ((laidW os).forCall (fun _ _=>0) ⟨#[],#[.agg #[.slice none 0 0,.slice none 0 0],.slice none 0 0,.int .i64 0],[]⟩).memory :=
 laidMet_of_run' 8 (by kernel_rfl) (by kernel_rfl)
theorem bankReplay_reads(os:Os){H:Type}(enc:TypeId×Value→H):∃ places,DataW.whole enc Tryz.prog ((laidW os).forCall (fun _ _=>0) ⟨#[],#[.agg #[.slice none 0 0,.slice none 0 0],.slice none 0 0,.int .i64 0],[]⟩).memory Tryz.f4.params.toList Rows.bankReplaySpec.vars false (#[.agg #[.slice none 0 0,.slice none 0 0],.slice none 0 0,.int .i64 0]:Array Value).toList 8=some ([.agg [.nil,.nil],.nil,.lit (.int .i64 0)],[],places) :=
 ⟨[],by kernel_rfl⟩
set_option maxRecDepth 100000 in
theorem bankReplay_lifted(os:Os)(started:os.Started)(H:Type)(enc:TypeId×Value→H)(F:Stop.Interp) :
    ReturnsInHanded {} Tryz.checked os 4 .any ((OpenSpec.ofChange Rows.bankReplaySpec).preRow enc Tryz.prog Tryz.f4 Rows.bankReplayRow.domain false Rows.bankReplayRow.laid) (((OpenSpec.ofChange Rows.bankReplaySpec).at F).post enc Tryz.prog Tryz.f4 false true false false):=by
 obtain⟨places,hx⟩:=bankReplay_reads os enc;refine returnsInHanded_of_row (C:=Tryz.checked) (s:=(OpenSpec.ofChange Rows.bankReplaySpec)) Tryz.own started (by kernel_rfl) Tryz.func4
  (witness_row_at (enc:=enc) (C:=Tryz.checked) false (laidW os) #[.agg #[.slice none 0 0,.slice none 0 0],.slice none 0 0,.int .i64 0] rfl (by kernel_rfl) (by kernel_rfl) (by kernel_rfl)
   (OpenSpec.preRow_of_cond 8 hx (by kernel_rfl) (fun k hk=>by cases hk) (by kernel_rfl) (bankReplay_laid os))) ?_
 intro W base args ds gs before hval0 hW _ hcond hsz0 hL hsh _;have hval:∀ (j:Nat) t v,Tryz.f4.params[j]?=some t→args[j]?=some v→Value.okWide Tryz.prog W .any base t v:=hval0;have hW':DataW.Whole enc Tryz.prog Tryz.f4.params.toList Rows.bankReplaySpec.vars false W args.toList ds gs before:=hW;have hW2:=hW';obtain⟨p,q,hA0,hV,rfl,hfz,hnd⟩:=hW2;have hA:DataW.TrodAll enc Tryz.prog W 0 (fun _=>true) true Tryz.f4.params.toList args.toList ds p:=hA0;rw[Tryz.params4]at hA hval;obtain⟨v0,vs0,d0,ds0,p0,q0,hargs,rfl,rfl,h0,r0⟩:=trodAll_cons hA;obtain⟨v1,vs1,d1,ds1,p1,q1,rfl,rfl,rfl,h1,r1⟩:=trodAll_cons r0;obtain⟨v2,vs2,d2,ds2,p2,q2,rfl,rfl,rfl,h2,r2⟩:=trodAll_cons r1;obtain⟨rfl,rfl,rfl⟩:=trodAll_nil r2;obtain rfl:args=#[v0,v1,v2]:=by cases args;simp_all
 obtain⟨rfl,rfl⟩:=trodVars_none hV;obtain⟨mx,hmx⟩:=Go.Proofs.cell_of_shapedOpen_int (g:=1) (zero:=#[.int .i64 0]) (t:=3) hsh (by decide +kernel) (by kernel_rfl) (by decide) (by kernel_rfl) (by kernel_rfl) Tryz.underlying3;have hsz:(DataW.weightsEach Tryz.prog (Tryz.f4.params.toList ++ Rows.bankReplaySpec.plain.varTypes Tryz.prog) _).all (· ≤ reachBytes)=true:=hsz0;rw[Tryz.params4]at hsz;obtain⟨x_0,rfl,⟨s_0,z_0⟩,s_00,z_00⟩:=Bk.grid_open (hval 0 24 v0 rfl rfl) h0 (light_arg hsz (j:=0) rfl rfl);obtain⟨A_1,l_1,c_1,rfl,le_1,mx_1,-,sz_1,s_1⟩:=Bk.cmds_open (hval 1 25 v1 rfl rfl) h1 (light_arg hsz (j:=1) rfl rfl);obtain⟨x_2,rfl,hd_2,-,wf_2⟩:=open_int Tryz.underlying3 (hval 2 3 v2 rfl rfl) h2;refine(Bk.replay_any x_0.1 x_0.2 A_1 c_1 _ _ _ l_1 x_2 W rfl rfl rfl s_0 s_00 z_0 z_00 s_1 le_1 mx_1 sz_1 ⟨mx,hmx⟩ (fld_of hL (by kernel_rfl) (by kernel_rfl))).mono fun e W' ⟨he,hw⟩=>?_;subst he;exact⟨_,rfl,law_post (s:=Rows.bankReplaySpec) hW' Tryz.laidOut (by kernel_rfl) rfl (by rfl) rfl Tryz.underlying4 hw⟩

theorem bankReplay_holds:Rows.BankReplaySaid :=
 OpenClaim.holds_of_cond 4 Tryz.f4 rfl rfl rfl rfl rfl rfl rfl ⟨rfl,rfl,rfl,rfl,rfl⟩ rfl rfl rfl rfl rfl (by kernel_rfl) Tryz.func4 (by kernel_rfl)
  (of_decide_eq_true (by kernel_rfl)) (by unfold Func.isWrapper;first | (rw[if_pos (by decide +kernel)];kernel_rfl) | (rw[if_neg (by decide +kernel)];exact⟨rfl,rfl⟩))
  (fun os started H enc _ F=>by rw[OpenClaim.pre_eq_preRow];exact bankReplay_lifted os started H enc F)
theorem bankReplay_card:Rows.BankReplayCardSaid :=
 Claim7.holds_tied_plain_at .later [] _ _ _ _
  bankReplay_holds (fun _ h=>by cases h) (by kernel_rfl) (fun _ h=>by cases h) bankReplay_row_tie rfl ⟨rfl,rfl⟩ (by kernel_rfl) rfl
  (fun f fn hf hfn=>by
   obtain rfl:f=4:=Option.some.inj ((show Tryz.prog.funcNamed Rows.bankReplayRow.func=some 4 by kernel_rfl).symm.trans hf) |>.symm
   obtain rfl:fn=Tryz.f4:=(Option.some.inj (Tryz.func4.symm.trans hfn)).symm;exact⟨by kernel_rfl,fun j t ht=>by rw[Tryz.params4]at ht;have hm:t∈[24,25,3]:=(by simpa using Array.mem_of_getElem? ht);have hall:([24,25,3].all fun u=>!Tryz.prog.wantsStandIn u)=true:=(by kernel_rfl);exact(show Tryz.prog.wantsStandIn t=false by simpa using List.all_eq_true.1 hall t hm)⟩)
  (by kernel_rfl)
#print axioms bankReplay_card
end Go.Proofs.YtfnmgcblhebdbaaGreatDoor
