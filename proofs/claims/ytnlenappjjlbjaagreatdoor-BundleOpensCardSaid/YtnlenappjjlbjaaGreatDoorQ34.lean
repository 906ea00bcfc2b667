/- Numbers appended in bytes behind a row that is the call's own, or full: contracts. Conditions: those of each theorem. -/
import Derived.Test.YtnlenappjjlbjaaGreatDoorQ22
import Derived.ArgAppend
import Derived.Deep.AppendLies
import Derived.Lib.SmallJoins
namespace Go.Proofs.YtnlenappjjlbjaaGreatDoor
open Go.ChangeShapes Go.WideShapes Go.ChangeAt Go.RowKit Go.Shelf
def RowM (base:Nat) (xs:List Int) (w:World) (v:Value):Prop:=RowU base xs w v∨∃ g,v=.slice (some ⟨g,0,none⟩) xs.length xs.length∧base≤g∧SlU w (some ⟨g,0,none⟩) xs
theorem RowM.form {base:Nat} {xs:List Int} {w:World} {v:Value} (h:RowM base xs w v):∃ A c,v=.slice A xs.length c:=by
 rcases h with h | ⟨g,hv,-,-⟩
 · exact own_form h
 · exact ⟨_,_,hv⟩
theorem RowM.ext {base:Nat} {xs:List Int} {w w':World} {v:Value} (h:RowM base xs w v) (he:Ext w w'):RowM base xs w' v:=by
 rcases h with h | ⟨g,hv,hg,hs⟩
 · exact Or.inl (own_ext h he)
 · exact Or.inr ⟨g,hv,hg,hs.ext he⟩
theorem RowM.ge {base:Nat} {xs:List Int} {w:World} {v:Value} (h:RowM base xs w v):∀ q,v.ownBlock=some q→base≤q:=by
 rcases h with h | ⟨g,hv,hg,-⟩
 · exact fun q hq=>own_ge h q hq
 · intro q hq
   rw [hv] at hq
   obtain rfl:g=q:=by simpa [Value.ownBlock] using hq
   exact hg
section
variable {w:World} {ops:Array Oper} {rest:List Oper} {o:Oper} {a:Act} {Q:Exit→Act→World→Prop}
theorem wpList_append_liesM (hgd : o.guard = none) (s x : Operand) (t : TypeId)
    (ho:o.op=.call { callee:=.builtin .append,args:=#[s,x],argTypes:=#[t,t] })
    (base:Nat) (e:TypeId) (he8:e=5) (i:TypeInfo) (z:Value) (ht:Tryz.prog.underlying t=some (.slice e)) (hi:Tryz.prog.info? e=some i) (hz:i.zero=some z)
    (hsize:i.size=1) (hby:i.bytes=1) (hzs:z.cells.size=1)
    (v:Value) (n:Nat) (ys:List Int) (hs:a.eval s=v) (hM:RowM base ys w v) (hn:ys.length=n)
    (ad:Addr) (m c:Nat) (news:List Value) (hx:a.eval x=.slice (some ad) m c) (hl:news.length=m*1) (hnews:∀ j u,news[j]?=some u→w.cell? (ad.add j)=some u) (h1:∀ u∈news,u.oneCell'=true)
    (hm:0<m) (h63:n+m≤maxLen) (hbytes:(n+m)*1≤140737488355328) (hbase:base≤w.heap.size)
    (h:∀ g cap w',w'.ownsRow base e 1 (.slice (some ⟨g,0,none⟩) (n+m) cap) (n+m) (ys.map (Value.int .u8) ++ news)→w.grownBy w' v.ownBlock→wpList Tryz.prog ops Q rest (a.put o.dst (.slice (some ⟨g,0,none⟩) (n+m) cap)) w'):wpList Tryz.prog ops Q (o :: rest) a w:=by
 subst hn he8
 rcases hM with hU | ⟨g,hv,hg,hsl⟩
 · exact wpList_append_lies w hgd s x t ho base _ i z 1 1 ht hi hz hsize hby hzs (by decide) v ys.length _ hs hU ad m c news hx hl hnews h1 hm h63 hbytes hbase w.heap.size rfl (fun g cap w' a b _ _=>h g cap w' a b)
 · subst hv
   refine wpList_append_grows w hgd s x t ho _ i z 1 1 ht hi hz hsize hby hzs (by decide) (some ⟨g,0,none⟩) ys.length ys.length (ys.map (Value.int .u8)) hs (fun e=>by cases e) (by simp) ?_ ad m c news hx hl hnews h1 (by omega) h63 hbytes ?_
   · intro b hb j u hu
     cases hb
     rw [List.getElem?_map] at hu
     obtain ⟨y,hy,rfl⟩:=Option.map_eq_some_iff.1 hu
     obtain ⟨hlt,hye⟩:=List.getElem?_eq_some_iff.1 hy
     obtain ⟨b',o',e',-,hc⟩:=hsl.at_ hlt
     cases e'
     rw [hye,Nat.zero_add] at hc
     rw [add_plain,Nat.zero_add]
     exact hc
   · intro v' w' hown hgr
     have hle:=Joins.ownsRow_le hown hbase
     obtain ⟨g',cap',e'⟩:=Joins.ownsRow_form hown (by omega)
     subst e'
     exact h g' cap' w' hle ⟨hgr.os,hgr.tape,hgr.output,hgr.size,fun k hk _=>hgr.block k hk (by simp)⟩
theorem wpList_append_slM (hgd : o.guard = none) (s x : Operand) (t : TypeId)
    (ho:o.op=.call { callee:=.builtin .append,args:=#[s,x],argTypes:=#[t,t] })
    (base:Nat) (e:TypeId) (he8:e=5) (i:TypeInfo) (z:Value) (ht:Tryz.prog.underlying t=some (.slice e)) (hi:Tryz.prog.info? e=some i) (hz:i.zero=some z)
    (hsize:i.size=1) (hby:i.bytes=1) (hzs:z.cells.size=1)
    (v:Value) (n:Nat) (ys:List Int) (hs:a.eval s=v) (hM:RowM base ys w v) (hn:ys.length=n)
    (A:Option Addr) (m c:Nat) (zs:List Int) (hzm:zs.length=m) (hx:a.eval x=.slice A m c) (hsl:SlU w A zs)
    (hm:0<m) (h63:n+m≤maxLen) (hbytes:(n+m)*1≤140737488355328) (hbase:base≤w.heap.size)
    (h:∀ g cap w',RowU base (ys ++ zs) w' (.slice (some ⟨g,0,none⟩) (n+m) cap)→w.grownBy w' v.ownBlock→wpList Tryz.prog ops Q rest (a.put o.dst (.slice (some ⟨g,0,none⟩) (n+m) cap)) w'):wpList Tryz.prog ops Q (o :: rest) a w:=by
 subst hzm
 obtain ⟨b,off,rfl,-,-⟩:=hsl.at_ (i:=0) hm
 refine wpList_append_liesM hgd s x t ho base e he8 i z ht hi hz hsize hby hzs v n ys hs hM hn ⟨b,off,none⟩ zs.length c (zs.map (Value.int .u8)) hx (by simp) ?_ ?_ hm h63 hbytes hbase ?_
 · intro j u hu
   rw [List.getElem?_map] at hu
   obtain ⟨y,hy,rfl⟩:=Option.map_eq_some_iff.1 hu
   obtain ⟨hlt,hye⟩:=List.getElem?_eq_some_iff.1 hy
   obtain ⟨b',o',e',-,hc⟩:=hsl.at_ hlt
   cases e'
   rw [hye] at hc
   rw [add_plain]
   exact hc
 · intro u hu
   obtain ⟨y,-,rfl⟩:=List.mem_map.1 hu
   rfl
 · intro g cap w' hown hgr
   subst he8
   refine h g cap w' ?_ hgr
   unfold RowU
   rw [List.length_append,List.map_append,hn]
   exact hown
end
set_option maxRecDepth 100000 in
set_option maxHeartbeats 3200000 in
theorem putM_any (W0 : World) (base : Nat) (hB : W0.heap.size ≤ base) (v : Value) (xs : List Int) (x : Int) (hx : Bu.U64 x) (n : Nat) (hn8 : n ≤ 8) (w : World) (hX : Ext W0 w) (hb : base ≤ w.heap.size) (hn : xs.length ≤ 2000000) (h : RowM base xs w v) :
    Calls Tryz.prog 28 #[v,.int .u64 x,.int .i64 (n:Int)] w fun e w'=>∃ v',e=.returned v'∧RowM base (xs ++ Bu.beB n x) w' v'∧Ext W0 w':=by
 obtain ⟨i0,hi0,hz0,hz1,hz2⟩:=info_parts Tryz.infoU8
 have H:=Hi h
 have HX:=Hi hX
 have H0:=hx.1
 have H1:=hx.2
 obtain ⟨nx,hnx⟩:∃ n,xs.length=n:=⟨_,rfl⟩
 rw [hnx] at hn
 have HNX:=Hi hnx
 clear h hX hx hnx
 go_enter Tryz.func28,Tryz.ntmps28
 go_wp2
 go_loopw [0,7] (fun b i wr=>∃ (k:Nat),k≤n∧i=.int .i64 ((n:Int)-1-(k:Int))∧Hid (RowM base (xs ++ (Bu.beB n x).take k) wr b)∧Hid (Ext W0 wr)∧base≤wr.heap.size) (fun _ i _=>(intOf i+1).toNat)
 case atStart=>exact ⟨0,by omega,by first | rfl | (congr 1;omega),Hi (by rw [List.take_zero,List.append_nil];exact H.out),HX,hb⟩
 case round =>
  obtain ⟨k,hk,rfl,HR,HW,hbr⟩:=hrel
  obtain ⟨A,c,rfl⟩:=RowM.form HR.out
  have HRL:Hid ((xs ++ (Bu.beB n x).take k).length=nx+k):=Hi (by rw [List.length_append,HNX.out,List.length_take,Bu.beB_len,Nat.min_eq_left hk])
  by_cases hlt:k<n
  · have HNE:=Hi (Bu.beB_take (Bu.beB_at n x k hlt))
    obtain ⟨ys,hys⟩:∃ q,xs ++ (Bu.beB n x).take k=q:=⟨_,rfl⟩
    have HYS:=Hi hys
    rw [hys] at HRL HR ⊢
    have HO:Hid (RowM base ys wr (.slice A ys.length c)):=HR
    rw [HRL.out] at HO ⊢
    obtain ⟨s,hs⟩:∃ s:Int,(n:Int)-1-(k:Int)=s:=⟨_,rfl⟩
    have HP:=Hi (Bu.pow_s8 hlt hn8 hs)
    have hs0:0≤s:=by omega
    have hs1:s≤7:=by omega
    rw [hs]
    have hp:=Bu.pow_pos (n-1-k)
    rw [← HP.out] at hp HNE
    have hq0:0≤x / 2 ^ (8*s).toNat:=Int.ediv_nonneg H0 (by omega)
    have hq1:x / 2 ^ (8*s).toNat<18446744073709551616:=Int.lt_of_le_of_lt (Int.ediv_le_self _ H0) H1
    have HK:=Hi hs
    clear hs HP hp hys HR
    have hn2:nx+k≤2000008:=by omega
    go_wp2_with (at_builtin;refine wpList_append_liesM rfl _ _ 24 rfl base 5 rfl i0 (.int .u8 0) Tryz.underlying24 hi0 hz0 hz1 hz2 rfl _ _ ys rfl (HO.out.ext ((Ext.refl _).alloc _)) HRL.out ⟨wr.heap.size,0,none⟩ 1 1 [.int .u8 (x / 2 ^ (8*s).toNat % 256)] rfl rfl (cell_one_new _ _ _) (by simp [Value.oneCell']) (by decide) (by unfold maxLen;omega) (by omega) (by simp;omega) ?_;intro gg cap w2 hown2 hgrow2)
    have HO2:Hid (RowM base (xs ++ (Bu.beB n x).take (k+1)) w2 (.slice (some ⟨gg,0,none⟩) (nx+k+1) cap)):=Hi (by
     left
     unfold RowU
     rw [HNE.out,← List.append_assoc,HYS.out,List.length_append,HRL.out,List.map_append]
     exact hown2)
    have HW2:=Hi ((HW.out.alloc (.cells #[.int .u8 (x / 2 ^ (8*s).toNat % 256)] 5)).grown hgrow2 (fun q hq=>Nat.le_trans hB (HO.out.ge q hq)))
    have hb2:base≤w2.heap.size:=by have:=hgrow2.size;simp at this;omega
    clear hown2 hgrow2
    go_wp2
    go_roundw
    case rel=>exact ⟨k+1,by omega,by have:=HK.out;first | go_num | (congr 1;omega),HO2,HW2,hb2⟩
    case measure=>simp [intOf];omega
  · obtain rfl:k=n:=by omega
    have hf:(Bu.beB k x).take k=Bu.beB k x:=List.take_of_length_le (by rw [Bu.beB_len];omega)
    rw [hf] at HR ⊢
    clear HRL hf
    generalize (xs ++ Bu.beB k x).length=z at *
    go_wp2
    go_ret
    exact ⟨_,rfl,HR.out,HW.out⟩
theorem putM_4 (W0 : World) (base : Nat) (hB : W0.heap.size ≤ base) (v : Value) (xs : List Int) (x : Int) (hx : Bu.U64 x) (w : World) (hX : Ext W0 w) (hb : base ≤ w.heap.size) (hn : xs.length ≤ 2000000) (h : RowM base xs w v) :
    Calls Tryz.prog 28 #[v,.int .u64 x,.int .i64 4] w fun e w'=>∃ v',e=.returned v'∧RowM base (xs ++ Bu.beB 4 x) w' v'∧Ext W0 w':=putM_any W0 base hB v xs x hx 4 (by decide) w hX hb hn h
theorem putM_8 (W0 : World) (base : Nat) (hB : W0.heap.size ≤ base) (v : Value) (xs : List Int) (x : Int) (hx : Bu.U64 x) (w : World) (hX : Ext W0 w) (hb : base ≤ w.heap.size) (hn : xs.length ≤ 2000000) (h : RowM base xs w v) :
    Calls Tryz.prog 28 #[v,.int .u64 x,.int .i64 8] w fun e w'=>∃ v',e=.returned v'∧RowM base (xs ++ Bu.beB 8 x) w' v'∧Ext W0 w':=putM_any W0 base hB v xs x hx 8 (by decide) w hX hb hn h
end Go.Proofs.YtnlenappjjlbjaaGreatDoor
