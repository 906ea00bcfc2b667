/- The codec's bit operations, in plain numbers. Conditions: those of each theorem. codec.appendVarint, codec.fold: contracts. Conditions: those of each theorem. codec.varintLen: a contract. Conditions: those of each theorem. The encoding of a tree, in plain words. No conditions. codec.measure of a tree that fits: a contract. Conditions: those of each theorem. codec.measure of a tree that fits, of any depth: a contract. Conditions: those of each theorem. codec.appendNode: tables of facts of its two drawn regions. Conditions: those of each theorem. The tree of a valid item can be encoded. Conditions: those of each theorem. -/
import Derived.Test.YtnlenappjjlbjaaGreatDoorQBase
import Derived.Test.YtnlenappjjlbjaaGreatDoorQ9
import Derived.Lib.BitFns
import Derived.Test.YtnlenappjjlbjaaGreatDoorQ15
import Derived.Test.YtnlenappjjlbjaaGreatDoorQ11
import Derived.Lib.AppendStr
namespace Go.Proofs.YtnlenappjjlbjaaGreatDoor

def foldZ (n:Int):Int:=if 0≤n then 2*n else -2*n-1
theorem or128 {x:Int} (h0:0≤x) (h1:x<256):bits BinOp.or IntKind.u8 x 128=x % 128+128:=by
 have h:∀ y:Fin 256,bits BinOp.or IntKind.u8 (y.val:Int) 128=(y.val:Int) % 128+128:=by decide +kernel
 have:=h ⟨x.toNat,by omega⟩
 simpa [Int.toNat_of_nonneg h0] using this
theorem u64_wrap (x:Int):IntKind.u64.wrap x=x % 18446744073709551616:=by
 simp [IntKind.wrap,IntKind.bits,IntKind.signed]
theorem fold_bits {n:Int} (h1:-9223372036854775808≤n) (h2:n≤9223372036854775807):bits BinOp.xor IntKind.u64 (IntKind.u64.wrap (IntKind.u64.wrap n*2)) (IntKind.u64.wrap (n / 9223372036854775808))=foldZ n:=by
 unfold foldZ
 rw [u64_wrap,u64_wrap,u64_wrap]
 by_cases h:0≤n
 · rw [if_pos h]
   have e1:n / 9223372036854775808=0:=by omega
   have e2:n % 18446744073709551616=n:=by omega
   rw [e1,e2]
   have e3:n*2 % 18446744073709551616=2*n:=by omega
   rw [e3]
   show IntKind.u64.wrap (((BitVec.ofInt 64 (2*n) ^^^ BitVec.ofInt 64 (0 % 18446744073709551616)).toNat:Nat):Int)=2*n
   have e4:BitVec.ofInt 64 (0 % 18446744073709551616)=0#64:=by decide
   rw [e4,BitVec.xor_zero,BitVec.toNat_ofInt,u64_wrap]
   omega
 · rw [if_neg h]
   have e1:n / 9223372036854775808=-1:=by omega
   have e2:n % 18446744073709551616=n+18446744073709551616:=by omega
   rw [e1,e2]
   have e3:(n+18446744073709551616)*2 % 18446744073709551616=2*n+18446744073709551616:=by omega
   rw [e3]
   show IntKind.u64.wrap (((BitVec.ofInt 64 (2*n+18446744073709551616) ^^^ BitVec.ofInt 64 (-1 % 18446744073709551616)).toNat:Nat):Int)=-2*n-1
   have e4:BitVec.ofInt 64 (-1 % 18446744073709551616)=BitVec.allOnes 64:=by decide
   rw [e4,BitVec.xor_allOnes,BitVec.toNat_not,BitVec.toNat_ofInt,u64_wrap]
   omega
def varB (n:Nat):List Int:=if h:n<128 then [(n:Int)] else ((n % 128+128:Nat):Int) :: varB (n / 128)
termination_by n
decreasing_by omega
theorem varB_small {n:Nat} (h:n<128):varB n=[(n:Int)]:=by rw [varB,dif_pos h]
theorem varB_big {n:Nat} (h:¬ n<128):varB n=((n % 128+128:Nat):Int) :: varB (n / 128):=by rw [varB,dif_neg h]
end Go.Proofs.YtnlenappjjlbjaaGreatDoor
namespace Go.Proofs.YtnlenappjjlbjaaGreatDoor
open Go.RowKit Go.Shelf

theorem Tryz.infoU8:(Tryz.prog.info? 5).map (fun i=>(i.zero,i.size,i.bytes))=some (some (.int .u8 0),1,1):=by kernel_rfl
def RowU (base:Nat) (xs:List Int) (w:World) (v:Value):Prop:=w.ownsRow base 5 1 v xs.length (xs.map (Value.int .u8))
set_option maxRecDepth 100000 in
set_option maxHeartbeats 1600000 in
theorem fold_any (n:Int) (h1:-9223372036854775808≤n) (h2:n≤9223372036854775807) (w:World):Calls Tryz.prog 94 #[.int .i64 n] w fun e w'=>e=.returned (.int .u64 (foldZ n))∧w=w':=by
 have HF:=Hi (fold_bits h1 h2)
 go_enter Tryz.func94,Tryz.ntmps94
 go_wp2
 go_ret
 exact ⟨ret_int HF.out,rfl⟩
def Fra (w:World) (v:Value) (w':World) (v':Value):Prop:=w.heap.size≤w'.heap.size∧∀ q,q<w.heap.size→some q≠v.ownBlock→w'.heap[q]?=w.heap[q]?∧some q≠v'.ownBlock
theorem Fra.refl (w:World) (v:Value):Fra w v w v:=⟨Nat.le_refl _,fun _ _ h=>⟨rfl,h⟩⟩
theorem Fra.trans {w w1 w2:World} {v v1 v2:Value} (h:Fra w v w1 v1) (g:Fra w1 v1 w2 v2):Fra w v w2 v2 :=
 ⟨Nat.le_trans h.1 g.1,fun q hq hv=>⟨(g.2 q (Nat.lt_of_lt_of_le hq h.1) (h.2 q hq hv).2).1.trans (h.2 q hq hv).1,(g.2 q (Nat.lt_of_lt_of_le hq h.1) (h.2 q hq hv).2).2⟩⟩
theorem Fra.ext {w w':World} (v:Value) (h:Ext w w'):Fra w v w' v:=⟨h.size,fun q hq hv=>⟨h.block q hq,hv⟩⟩
theorem Fra.alloc (w:World) (v:Value) (o:Obj):Fra w v (w.alloc o) v:=Fra.ext v ((Ext.refl _).alloc o)
theorem Fra.grown {w w':World} {v:Value} {g n c:Nat} (h:w.grownBy w' v.ownBlock) (hg:v.ownBlock=some g∨g=w.heap.size):Fra w v w' (.slice (some ⟨g,0,none⟩) n c) :=
 ⟨h.size,fun q hq hv=>⟨h.block q hq hv,fun e=>by
  have e':q=g:=Option.some.inj e
  rcases hg with hg | hg
  · rw [hg,e'] at hv;exact hv rfl
  · omega⟩⟩
theorem varB_pos (n:Nat):0<(varB n).length:=by
 by_cases h:n<128
 · rw [varB_small h];simp
 · rw [varB_big h];simp
set_option maxRecDepth 100000 in
set_option maxHeartbeats 6400000 in
theorem av_any (W0 : World) (base : Nat) (hB : W0.heap.size ≤ base) (v : Value) (xs : List Int) (x : Nat) (hx : x < 18446744073709551616) (w : World) (hX : Ext W0 w) (hb : base ≤ w.heap.size) (hn : xs.length + (varB x).length ≤ 2000000) (h : RowU base xs w v) :
    Calls Tryz.prog 95 #[v,.int .u64 (x:Int)] w fun e w'=>∃ v',e=.returned v'∧RowU base (xs ++ varB x) w' v'∧Ext W0 w'∧Fra w v w' v':=by
 obtain ⟨i0,hi0,hz0,hz1,hz2⟩:=info_parts Tryz.infoU8
 have H:=Hi h
 have HX:=Hi hX
 clear h hX
 go_enter Tryz.func95,Tryz.ntmps95
 go_wp2
 go_loopw [0,1] (fun b y wr=>∃ (m:Nat) (ys:List Int),m≤x∧y=.int .u64 (m:Int)∧Hid (ys ++ varB m=xs ++ varB x)∧Hid (RowU base ys wr b)∧Hid (Ext W0 wr∧Fra w v wr b)∧base≤wr.heap.size) (fun _ y _=>(intOf y).toNat)
 case atStart=>exact ⟨x,xs,Nat.le_refl _,rfl,Hi rfl,H,Hi ⟨HX.out,Fra.refl _ _⟩,hb⟩
 case round =>
  obtain ⟨m,ys,hm,rfl,HE,HR,HW0,hbr⟩:=hrel
  have HW:=Hi HW0.out.1
  have HF0:=Hi HW0.out.2
  clear HW0
  obtain ⟨n,hyn⟩:∃ n,ys.length=n:=⟨_,rfl⟩
  obtain ⟨A,c,rfl⟩:=own_form HR.out
  have HO:Hid (wr.ownsRow base 5 1 (.slice A ys.length c) ys.length (ys.map (Value.int .u8))):=HR
  have hlen:n+(varB m).length=xs.length+(varB x).length:=by have:=congrArg List.length HE.out;rw [List.length_append,List.length_append,hyn] at this;exact this
  rw [hyn] at HO HF0 ⊢
  have hp:=varB_pos m
  have hn3:n≤2000000:=by omega
  have HYN:=Hi hyn
  clear hyn HR
  by_cases hlt:128≤m
  · have hd:decide (128≤(m:Int))=true:=by rw [decide_eq_true_eq];omega
    have hbit:bits BinOp.or IntKind.u8 ((m:Int) % 256) 128=((m % 128+128:Nat):Int):=by
     rw [or128 (by omega) (by omega)]
     omega
    have HNE:Hid ((ys ++ [((m % 128+128:Nat):Int)]) ++ varB (m / 128)=xs ++ varB x):=Hi (by rw [List.append_assoc,← HE.out,varB_big (n:=m) (by omega)];rfl)
    have hn1:n+1≤2000000:=by rw [varB_big (n:=m) (by omega)] at hlen;simp at hlen;omega
    clear hlen hp
    go_wp2_with (at_builtin;refine wpList_append_lies _ rfl _ _ 24 rfl base 5 i0 (.int .u8 0) 1 1 Tryz.underlying24 hi0 hz0 hz1 hz2 rfl (by decide) _ _ _ rfl (HO.out.alloc _) ⟨wr.heap.size,0,none⟩ 1 1 [.int .u8 ((m % 128+128:Nat):Int)] rfl rfl (cell_one_new _ _ _) (by simp [Value.oneCell']) (by decide) (by unfold maxLen;omega) (by omega) (by simp;omega) (wr.heap.size+1) (by simp) ?_;intro gg cap w2 hown2 hgrow2 hat hlt2)
    have HO2:Hid (RowU base (ys ++ [((m % 128+128:Nat):Int)]) w2 (.slice (some ⟨gg,0,none⟩) (n+1) cap)):=Hi (by
     unfold RowU
     rw [List.length_append,HYN.out,List.map_append]
     exact hown2)
    have HF2:=Hi ((HF0.out.trans (Fra.alloc _ _ _)).trans (Fra.grown hgrow2 (n:=n+1) (c:=cap) (by rcases hat with e | e;exact Or.inl e;exact Or.inr (by simpa using e))))
    have HW2:=Hi ((HW.out.alloc (.cells #[.int .u8 ((m % 128+128:Nat):Int)] 5)).grown hgrow2 (fun q hq=>Nat.le_trans hB (own_ge HO.out q hq)))
    have hb2:base≤w2.heap.size:=by have:=hgrow2.size;simp at this;omega
    clear hown2 hgrow2 hat hbit
    go_wp2
    go_roundw
    case rel=>exact ⟨m / 128,_,by omega,by first | rfl | simp | go_num,HNE,HO2,Hi ⟨HW2.out,HF2.out⟩,hb2⟩
    case measure=>simp [intOf];omega
  · have hd:decide (128≤(m:Int))=false:=by rw [decide_eq_false_iff_not];omega
    have hw8:(m:Int) % 256=(m:Int):=by omega
    have HNE:Hid (ys ++ [(m:Int)]=xs ++ varB x):=Hi (by rw [← HE.out,varB_small (n:=m) (by omega)])
    clear hlen hp
    go_wp2_with (at_builtin;refine wpList_append_lies _ rfl _ _ 24 rfl base 5 i0 (.int .u8 0) 1 1 Tryz.underlying24 hi0 hz0 hz1 hz2 rfl (by decide) _ _ _ rfl (HO.out.alloc _) ⟨wr.heap.size,0,none⟩ 1 1 [.int .u8 (m:Int)] rfl rfl (cell_one_new _ _ _) (by simp [Value.oneCell']) (by decide) (by unfold maxLen;omega) (by omega) (by simp;omega) (wr.heap.size+1) (by simp) ?_;intro gg cap w2 hown2 hgrow2 hat hlt2)
    have HO2:Hid (RowU base (ys ++ [(m:Int)]) w2 (.slice (some ⟨gg,0,none⟩) (n+1) cap)):=Hi (by
     unfold RowU
     rw [List.length_append,HYN.out,List.map_append]
     exact hown2)
    have HF2:=Hi ((HF0.out.trans (Fra.alloc _ _ _)).trans (Fra.grown hgrow2 (n:=n+1) (c:=cap) (by rcases hat with e | e;exact Or.inl e;exact Or.inr (by simpa using e))))
    have HW2:=Hi ((HW.out.alloc (.cells #[.int .u8 (m:Int)] 5)).grown hgrow2 (fun q hq=>Nat.le_trans hB (own_ge HO.out q hq)))
    clear hown2 hgrow2 hat
    go_wp2
    go_ret
    rw [HNE.out] at HO2
    exact ⟨_,rfl,HO2.out,HW2.out,HF2.out⟩
set_option maxRecDepth 100000 in
set_option maxHeartbeats 6400000 in
theorem rav_any (W0 : World) (base : Nat) (hB : W0.heap.size ≤ base) (v : Value) (xs : List Int) (x : Nat) (hx : x < 18446744073709551616) (w : World) (hX : Ext W0 w) (hb : base ≤ w.heap.size) (hn : xs.length + (varB x).length ≤ 2000000) (h : RowU base xs w v) :
    Calls Tryz.prog 103 #[v,.int .u64 (x:Int)] w fun e w'=>∃ v',e=.returned v'∧RowU base (xs ++ varB x) w' v'∧Ext W0 w'∧Fra w v w' v':=by
 obtain ⟨i0,hi0,hz0,hz1,hz2⟩:=info_parts Tryz.infoU8
 have H:=Hi h
 have HX:=Hi hX
 clear h hX
 go_enter Tryz.func103,Tryz.ntmps103
 go_wp2
 go_loopw [0,1] (fun b y wr=>∃ (m:Nat) (ys:List Int),m≤x∧y=.int .u64 (m:Int)∧Hid (ys ++ varB m=xs ++ varB x)∧Hid (RowU base ys wr b)∧Hid (Ext W0 wr∧Fra w v wr b)∧base≤wr.heap.size) (fun _ y _=>(intOf y).toNat)
 case atStart=>exact ⟨x,xs,Nat.le_refl _,rfl,Hi rfl,H,Hi ⟨HX.out,Fra.refl _ _⟩,hb⟩
 case round =>
  obtain ⟨m,ys,hm,rfl,HE,HR,HW0,hbr⟩:=hrel
  have HW:=Hi HW0.out.1
  have HF0:=Hi HW0.out.2
  clear HW0
  obtain ⟨n,hyn⟩:∃ n,ys.length=n:=⟨_,rfl⟩
  obtain ⟨A,c,rfl⟩:=own_form HR.out
  have HO:Hid (wr.ownsRow base 5 1 (.slice A ys.length c) ys.length (ys.map (Value.int .u8))):=HR
  have hlen:n+(varB m).length=xs.length+(varB x).length:=by have:=congrArg List.length HE.out;rw [List.length_append,List.length_append,hyn] at this;exact this
  rw [hyn] at HO HF0 ⊢
  have hp:=varB_pos m
  have hn3:n≤2000000:=by omega
  have HYN:=Hi hyn
  clear hyn HR
  by_cases hlt:128≤m
  · have hd:decide (128≤(m:Int))=true:=by rw [decide_eq_true_eq];omega
    have hbit:((m:Int) % 128+128) % 256=((m % 128+128:Nat):Int):=by omega
    have HNE:Hid ((ys ++ [((m % 128+128:Nat):Int)]) ++ varB (m / 128)=xs ++ varB x):=Hi (by rw [List.append_assoc,← HE.out,varB_big (n:=m) (by omega)];rfl)
    have hn1:n+1≤2000000:=by rw [varB_big (n:=m) (by omega)] at hlen;simp at hlen;omega
    clear hlen hp
    go_wp2_with (at_builtin;refine wpList_append_lies _ rfl _ _ 24 rfl base 5 i0 (.int .u8 0) 1 1 Tryz.underlying24 hi0 hz0 hz1 hz2 rfl (by decide) _ _ _ rfl (HO.out.alloc _) ⟨wr.heap.size,0,none⟩ 1 1 [.int .u8 ((m % 128+128:Nat):Int)] rfl rfl (cell_one_new _ _ _) (by simp [Value.oneCell']) (by decide) (by unfold maxLen;omega) (by omega) (by simp;omega) (wr.heap.size+1) (by simp) ?_;intro gg cap w2 hown2 hgrow2 hat hlt2)
    have HO2:Hid (RowU base (ys ++ [((m % 128+128:Nat):Int)]) w2 (.slice (some ⟨gg,0,none⟩) (n+1) cap)):=Hi (by
     unfold RowU
     rw [List.length_append,HYN.out,List.map_append]
     exact hown2)
    have HF2:=Hi ((HF0.out.trans (Fra.alloc _ _ _)).trans (Fra.grown hgrow2 (n:=n+1) (c:=cap) (by rcases hat with e | e;exact Or.inl e;exact Or.inr (by simpa using e))))
    have HW2:=Hi ((HW.out.alloc (.cells #[.int .u8 ((m % 128+128:Nat):Int)] 5)).grown hgrow2 (fun q hq=>Nat.le_trans hB (own_ge HO.out q hq)))
    have hb2:base≤w2.heap.size:=by have:=hgrow2.size;simp at this;omega
    clear hown2 hgrow2 hat hbit
    go_wp2
    go_roundw
    case rel=>exact ⟨m / 128,_,by omega,by first | rfl | simp | go_num,HNE,HO2,Hi ⟨HW2.out,HF2.out⟩,hb2⟩
    case measure=>simp [intOf];omega
  · have hd:decide (128≤(m:Int))=false:=by rw [decide_eq_false_iff_not];omega
    have hw8:(m:Int) % 256=(m:Int):=by omega
    have HNE:Hid (ys ++ [(m:Int)]=xs ++ varB x):=Hi (by rw [← HE.out,varB_small (n:=m) (by omega)])
    clear hlen hp
    go_wp2_with (at_builtin;refine wpList_append_lies _ rfl _ _ 24 rfl base 5 i0 (.int .u8 0) 1 1 Tryz.underlying24 hi0 hz0 hz1 hz2 rfl (by decide) _ _ _ rfl (HO.out.alloc _) ⟨wr.heap.size,0,none⟩ 1 1 [.int .u8 (m:Int)] rfl rfl (cell_one_new _ _ _) (by simp [Value.oneCell']) (by decide) (by unfold maxLen;omega) (by omega) (by simp;omega) (wr.heap.size+1) (by simp) ?_;intro gg cap w2 hown2 hgrow2 hat hlt2)
    have HO2:Hid (RowU base (ys ++ [(m:Int)]) w2 (.slice (some ⟨gg,0,none⟩) (n+1) cap)):=Hi (by
     unfold RowU
     rw [List.length_append,HYN.out,List.map_append]
     exact hown2)
    have HF2:=Hi ((HF0.out.trans (Fra.alloc _ _ _)).trans (Fra.grown hgrow2 (n:=n+1) (c:=cap) (by rcases hat with e | e;exact Or.inl e;exact Or.inr (by simpa using e))))
    have HW2:=Hi ((HW.out.alloc (.cells #[.int .u8 (m:Int)] 5)).grown hgrow2 (fun q hq=>Nat.le_trans hB (own_ge HO.out q hq)))
    clear hown2 hgrow2 hat
    go_wp2
    go_ret
    rw [HNE.out] at HO2
    exact ⟨_,rfl,HO2.out,HW2.out,HF2.out⟩
end Go.Proofs.YtnlenappjjlbjaaGreatDoor
namespace Go.Proofs.YtnlenappjjlbjaaGreatDoor
open Go.RowKit Go.Shelf

theorem or_one (n:Nat):n ||| 1=n / 2*2+1:=by
 have h1:(n ||| 1) / 2=n / 2:=by rw [Nat.or_div_two];simp
 have h2:(n ||| 1) % 2=1:=Nat.or_mod_two_eq_one.2 (Or.inr rfl)
 omega
theorem or1 {n:Nat} (h:n<18446744073709551616):bits BinOp.or IntKind.u64 (n:Int) 1=((n / 2*2+1:Nat):Int):=by
 show IntKind.u64.wrap (((BitVec.ofInt 64 (n:Int) ||| BitVec.ofInt 64 1).toNat:Nat):Int)=_
 rw [BitVec.toNat_or,BitVec.toNat_ofInt,BitVec.toNat_ofInt,u64_wrap]
 have e1:((n:Int) % ((2 ^ 64:Nat):Int)).toNat=n:=by
  have:(n:Int) % ((2 ^ 64:Nat):Int)=(n:Int):=by
   rw [show ((2 ^ 64:Nat):Int)=18446744073709551616 by decide];omega
  rw [this];omega
 have e2:((1:Int) % ((2 ^ 64:Nat):Int)).toNat=1:=by decide
 rw [e1,e2,or_one]
 omega
theorem bitLen_odd {n:Nat} (h0:1≤n) (h:n<18446744073709551616):Lib.bitLen (n / 2*2+1)=Lib.bitLen n:=by
 rw [Lib.bitLen_half n (by omega) (by omega),Lib.bitLen_half (n / 2*2+1) (by omega) (by omega),show (n / 2*2+1) / 2=n / 2 by omega]
theorem var_len:∀ n:Nat,1≤n→n<18446744073709551616→(Lib.bitLen n+6) / 7=(varB n).length:=by
 intro n
 induction n using Nat.strongRecOn with
 | ind n ih =>
  intro h1 h2
  by_cases h:n<128
  · rw [varB_small h]
    have hle:=Lib.bitLen_le n 7 (by omega) (by omega)
    have hge:1≤Lib.bitLen n:=by rw [Lib.bitLen_half n (by omega) (by omega)];omega
    simp only [List.length_cons,List.length_nil]
    omega
  · rw [varB_big h,List.length_cons,← ih (n / 128) (by omega) (by omega) (by omega)]
    have:=Lib.bitLen_shift 7 n (by omega) (by omega)
    rw [this,show (2:Nat) ^ 7=128 by decide]
    omega
theorem var_len1 {n:Nat} (h:n<18446744073709551616):(Lib.bitLen (n / 2*2+1)+6) / 7=(varB n).length:=by
 by_cases h0:n=0
 · subst h0;rw [varB_small (by omega)];decide
 · rw [bitLen_odd (by omega) h,var_len n (by omega) h]
theorem bitLen_small (n:Nat):Lib.bitLen n≤64:=by
 by_cases h:n<18446744073709551616
 · exact Lib.bitLen_le n 64 (by omega) h
 · unfold Lib.bitLen
   have:∀ f x,Lib.bitLenAux f x≤f:=by
    intro f
    induction f with
    | zero=>intro x;simp [Lib.bitLenAux]
    | succ f ih => intro x; unfold Lib.bitLenAux; split; · omega
                   · have:=ih (x / 2);omega
   exact this 64 n
set_option maxRecDepth 100000 in
set_option maxHeartbeats 1600000 in
theorem varintLen_any (n:Nat) (h:n<18446744073709551616) (w:World):Calls Tryz.prog 93 #[.int .u64 (n:Int)] w fun e w'=>e=.returned (.int .i64 ((varB n).length:Nat))∧w=w':=by
 have hor:=or1 h
 have HV:=Hi (var_len1 h)
 have hb:=bitLen_small (n / 2*2+1)
 have h1:((n / 2*2+1:Nat):Int)≤18446744073709551615:=by omega
 obtain ⟨m,hm⟩:∃ m,n / 2*2+1=m:=⟨_,rfl⟩
 rw [hm] at hor h1 hb HV
 obtain ⟨L,hL⟩:∃ L,Lib.bitLen m=L:=⟨_,rfl⟩
 have HL:=Hi hL
 rw [hL] at hb HV
 have H1:=Hi h1
 clear hm hL h1 h
 go_enter Tryz.func93,Tryz.ntmps93
 go_wp2_with fail
 refine (Any.bits_Len64 Tryz.lays129 (m:Int) _ (by omega) H1.out).mono ?_
 rintro e w1 ⟨rfl,rfl⟩
 rw [Int.toNat_natCast,HL.out]
 go_wp2
 go_ret
 exact ⟨ret_int (by rw [← HV.out];omega),rfl⟩
end Go.Proofs.YtnlenappjjlbjaaGreatDoor
namespace Go.Proofs.YtnlenappjjlbjaaGreatDoor
open Go.RowKit

def byB (s:ByteArray):List Int:=s.data.toList.map fun b=>(b.toNat:Int)
def encT:Nat→Nd→List Int
 | 0,_=>[]
 | d+1,x=>varB x.tag.toNat ++ ([x.kind] ++ (if x.kind=1 then varB (foldZ x.n).toNat else if x.kind=2 then varB x.s.size ++ byB x.s else varB x.kids.length ++ (x.kids.map (encT d)).flatten))
def Fits:Nat→Nd→Prop
 | 0,_=>False
 | d+1,x=>(0≤x.tag∧x.tag≤9999999)∧((x.kind=1∧In64 x.n∧x.s.size=0∧x.kids=[])∨(x.kind=2∧x.n=0∧x.s.size≤2000∧x.kids=[])∨(0<d∧x.kind=3∧x.n=0∧x.s.size=0∧x.kids.length≤1024∧∀ k∈x.kids,Fits d k))
theorem fold_nonneg {n:Int}:0≤foldZ n:=by unfold foldZ;split <;> omega
theorem fold_lt {n:Int} (h:In64 n):foldZ n<18446744073709551616:=by unfold foldZ;unfold In64 at h;split <;> omega
theorem varB_len (n:Nat) (h:n<18446744073709551616):(varB n).length≤10:=by
 by_cases h0:n=0
 · subst h0;rw [varB_small (by omega)];decide
 · have:=var_len n (by omega) h
   have hb:=bitLen_small n
   omega
end Go.Proofs.YtnlenappjjlbjaaGreatDoor
namespace Go.Proofs.YtnlenappjjlbjaaGreatDoor
open Go.RowKit Go.Shelf

theorem empty_of {s:ByteArray} (h:s.size=0):s=⟨#[]⟩:=by
 obtain ⟨a⟩:=s
 have:a=#[]:=Array.eq_empty_of_size_eq_zero h
 rw [this]
set_option maxRecDepth 100000 in
set_option maxHeartbeats 6400000 in
theorem measure_1 (tn : Nat) (n : Int) (M : Option Addr × Nat) (lv rm : Int) (w : World) (ht : tn ≤ 9999999) (hn : In64 n) (h1 : 0 ≤ lv) (h2 : lv ≤ 8) (h3 : ((varB tn).length : Int) + 1 + (varB (foldZ n).toNat).length ≤ rm) (h4 : rm ≤ 1048576) :
    Calls Tryz.prog 55 #[nda (.mk tn 1 n ⟨#[]⟩ []) M,.int .i64 lv,.int .i64 rm] w fun e w'=>e=.returned (.tuple #[.int .i64 (((varB tn).length:Int)+1+(varB (foldZ n).toNat).length),.bool true])∧Ext w w':=by
 obtain ⟨f,hf⟩:∃ f:Nat,foldZ n=f:=⟨(foldZ n).toNat,by have:=fold_nonneg (n:=n);omega⟩
 have hfl:f<18446744073709551616:=by have:=fold_lt hn;omega
 rw [hf,Int.toNat_natCast] at h3 ⊢
 have V1:=Hi (varintLen_any tn (by omega))
 have V2:=Hi (varintLen_any f hfl)
 have FO:=Hi (fold_any n hn.1 hn.2)
 rw [hf] at FO
 have hb1:=varB_len tn (by omega)
 have hb2:=varB_len f hfl
 generalize (varB tn).length=a at *
 generalize (varB f).length=b at *
 have hd1:decide ((8:Int)<lv)=false:=by rw [decide_eq_false_iff_not];omega
 have hd2:decide (rm<(a:Int)+1+b)=false:=by rw [decide_eq_false_iff_not];omega
 have hd3:decide ((9999999:Int)<tn)=false:=by rw [decide_eq_false_iff_not];omega
 clear hf hfl hn
 simp only [nda,Nd.tag,Nd.kind,Nd.n,Nd.s,Nd.kids,List.length_nil]
 go_enter Tryz.func55,Tryz.ntmps55
 go_wp2_with fail
 with_reducible refine (V1.out _).mono ?_
 rintro e w1 ⟨rfl,rfl⟩
 go_wp2_with fail
 with_reducible refine (FO.out _).mono ?_
 rintro e w1 ⟨rfl,rfl⟩
 go_wp2_with fail
 with_reducible refine (V2.out _).mono ?_
 rintro e w1 ⟨rfl,rfl⟩
 go_wp2
 go_loopw [8,109] (fun z i wr=>z=.int .i64 ((a:Int)+1+b)∧i=.int .i64 0∧Ext w wr) (fun _ _ _=>0)
 case atStart=>exact ⟨rfl,rfl,(Ext.refl _).alloc _⟩
 case round =>
  obtain ⟨rfl,rfl,he⟩:=hrel
  go_wp2
  go_ret2
  exact ⟨rfl,he⟩
set_option maxRecDepth 100000 in
set_option maxHeartbeats 6400000 in
theorem measure_2 (tn : Nat) (s : ByteArray) (M : Option Addr × Nat) (lv rm : Int) (w : World) (ht : tn ≤ 9999999) (hs : s.size ≤ 2000) (h1 : 0 ≤ lv) (h2 : lv ≤ 8) (h3 : ((varB tn).length : Int) + 1 + ((varB s.size).length + s.size) ≤ rm) (h4 : rm ≤ 1048576) :
    Calls Tryz.prog 55 #[nda (.mk tn 2 0 s []) M,.int .i64 lv,.int .i64 rm] w fun e w'=>e=.returned (.tuple #[.int .i64 (((varB tn).length:Int)+1+((varB s.size).length+s.size)),.bool true])∧Ext w w':=by
 have V1:=Hi (varintLen_any tn (by omega))
 have V2:Hid (∀ w:World,Calls Tryz.prog 93 #[.int .u64 (s.size:Int)] w fun e w'=>e=.returned (.int .i64 ((varB s.size).length:Nat))∧w'=w):=Hi (fun w=>(varintLen_any s.size (by omega) w).mono fun e w' ⟨h,g⟩=>⟨h,g.symm⟩)
 have hb1:=varB_len tn (by omega)
 have hb2:=varB_len s.size (by omega)
 generalize (varB tn).length=a at *
 generalize (varB s.size).length=b at *
 have hd1:decide ((8:Int)<lv)=false:=by rw [decide_eq_false_iff_not];omega
 have hd2:decide (rm<(a:Int)+1+(b+s.size))=false:=by rw [decide_eq_false_iff_not];omega
 have hd3:decide ((9999999:Int)<tn)=false:=by rw [decide_eq_false_iff_not];omega
 have hd4:decide ((2000:Int)<s.size)=false:=by rw [decide_eq_false_iff_not];omega
 simp only [nda,Nd.tag,Nd.kind,Nd.n,Nd.s,Nd.kids,List.length_nil]
 go_enter Tryz.func55,Tryz.ntmps55
 go_wp2_with fail
 with_reducible refine (V1.out _).mono ?_
 rintro e w1 ⟨rfl,rfl⟩
 go_wp2_with fail
 go_quiet ((go_at_call 93;exact Calls.quiet_of_same (V2.out _)))
 go_wp2
 go_loopw [8,109] (fun z i wr=>z=.int .i64 ((a:Int)+1+(b+s.size))∧i=.int .i64 0∧Ext w wr) (fun _ _ _=>0)
 case atStart=>exact ⟨rfl,rfl,((Ext.refl _).alloc _).drewN _⟩
 case round =>
  obtain ⟨rfl,rfl,he⟩:=hrel
  go_wp2
  go_ret2
  exact ⟨rfl,he⟩
def MeaAt (B d:Nat):Prop:=∀ (x:Nd) (M:Option Addr×Nat) (lv rm:Int) (w:World),KidsAt B 0 d w M x.kids→Fits (d+1) x→0≤lv→lv+d≤8→((encT (d+1) x).length:Int)≤rm→rm≤1048576 →
 Calls Tryz.prog 55 #[nda x M,.int .i64 lv,.int .i64 rm] w fun e w'=>e=.returned (.tuple #[.int .i64 ((encT (d+1) x).length:Nat),.bool true])∧Ext w w'
theorem sum_next {α:Type} {f:α→List Int} {l:List α} {k:Nat} {x:α} (h:l[k]?=some x):(((l.take (k+1)).map f).flatten).length=(((l.take k).map f).flatten).length+(f x).length:=by
 rw [List.take_add_one,h,List.map_append,List.flatten_append,List.length_append];simp
theorem sum_le {α:Type} {f:α→List Int} (l:List α) (k:Nat):(((l.take k).map f).flatten).length≤((l.map f).flatten).length:=by
 have h:l.take k ++ l.drop k=l:=List.take_append_drop k l
 have:((l.map f).flatten).length=(((l.take k).map f).flatten).length+(((l.drop k).map f).flatten).length:=by
  rw [← List.length_append,← List.flatten_append,← List.map_append,h]
 omega
set_option maxRecDepth 100000 in
set_option maxHeartbeats 12800000 in
theorem measure_3 (B d : Nat) (ih : MeaAt B d) (tn : Nat) (ks : List Nd) (M : Option Addr × Nat) (lv rm : Int) (w : World) (hK : KidsAt B 0 (d + 1) w M ks) (hF : ∀ k ∈ ks, Fits (d + 1) k) (ht : tn ≤ 9999999) (hl : ks.length ≤ 1024) (h1 : 0 ≤ lv) (h2 : lv + (d + 1) ≤ 8)
    (h3:((varB tn).length:Int)+1+(varB ks.length).length+((ks.map (encT (d+1))).flatten).length≤rm) (h4:rm≤1048576) :
    Calls Tryz.prog 55 #[nda (.mk tn 3 0 ⟨#[]⟩ ks) M,.int .i64 lv,.int .i64 rm] w fun e w'=>e=.returned (.tuple #[.int .i64 (((varB tn).length:Int)+1+(varB ks.length).length+((ks.map (encT (d+1))).flatten).length),.bool true])∧Ext w w':=by
 have V1:=Hi (varintLen_any tn (by omega))
 have V2:=Hi (varintLen_any ks.length (by omega))
 have HIH:=Hi ih
 have HK:=Hi hK
 have HF:=Hi hF
 have hb1:=varB_len tn (by omega)
 have hb2:=varB_len ks.length (by omega)
 generalize (varB tn).length=a at *
 generalize (varB ks.length).length=b at *
 have HSL:=Hi (sum_le (f:=encT (d+1)) ks)
 obtain ⟨tot,htot⟩:∃ t,((ks.map (encT (d+1))).flatten).length=t:=⟨_,rfl⟩
 rw [htot] at h3 ⊢
 have HT:=Hi htot
 obtain ⟨n,hn⟩:∃ n,ks.length=n:=⟨_,rfl⟩
 have HN:=Hi hn
 rw [hn] at hl V2
 clear ih hK hF htot
 have hd1:decide ((8:Int)<lv)=false:=by rw [decide_eq_false_iff_not];omega
 have hd2:decide (rm<(a:Int)+1+b)=false:=by rw [decide_eq_false_iff_not];omega
 have hd3:decide ((9999999:Int)<tn)=false:=by rw [decide_eq_false_iff_not];omega
 have hd4:decide ((1024:Int)<n)=false:=by rw [decide_eq_false_iff_not];omega
 simp only [nda,Nd.tag,Nd.kind,Nd.n,Nd.s,Nd.kids]
 rw [hn]
 clear hn
 go_enter Tryz.func55,Tryz.ntmps55
 go_wp2_with fail
 with_reducible refine (V1.out _).mono ?_
 rintro e w1 ⟨rfl,rfl⟩
 go_wp2_with fail
 with_reducible refine (V2.out _).mono ?_
 rintro e w1 ⟨rfl,rfl⟩
 go_wp2
 go_loopw [8,109] (fun z i wr=>∃ k:Nat,k≤n∧i=.int .i64 k∧z=.int .i64 ((a:Int)+1+b+(((ks.take k).map (encT (d+1))).flatten).length)∧Hid (Ext w wr)) (fun _ i _=>n-(intOf i).toNat)
 case atStart=>exact ⟨0,by omega,rfl,by simp,Hi ((Ext.refl _).alloc _)⟩
 case round =>
  obtain ⟨k,hk,rfl,rfl,HE⟩:=hrel
  by_cases hlt:k<n
  · obtain ⟨x,hx⟩:∃ x,ks[k]?=some x:=⟨ks[k]'(by rw [HN.out];exact hlt),List.getElem?_eq_getElem _⟩
    obtain ⟨bb,off,N,hA,hb,c0,c1,c2,c3,c4,hKN⟩:=(HK.out.ext HE.out).at_ hx
    obtain ⟨MA,mc⟩:=M
    dsimp only at hA
    subst hA
    have hle:=HSL.out (k+1)
    have HSN:=Hi (sum_next (f:=encT (d+1)) hx)
    rw [HSN.out,HT.out] at hle
    have HKN:=Hi hKN
    have HFX:=Hi (HF.out x (List.mem_of_getElem? hx))
    have ki0:(0:Int)≤(k:Int):=by omega
    have ki1:(k:Int)<(n:Int):=by omega
    clear hx hKN
    generalize (((ks.take k).map (encT (d+1))).flatten).length=sk at *
    obtain ⟨lx,hlx⟩:∃ l,(encT (d+1) x).length=l:=⟨_,rfl⟩
    have HLX:=Hi hlx
    rw [hlx] at hle HSN
    have HC:Hid (∀ w,KidsAt B 0 d w N x.kids→Calls Tryz.prog 55 #[.agg #[.int .i64 x.tag,.int .i64 x.kind,.int .i64 x.n,.string x.s,.slice N.1 x.kids.length N.2],.int .i64 (lv+1),.int .i64 (rm-((a:Int)+1+b+sk))] w fun e w'=>e=.returned (.tuple #[.int .i64 (lx:Nat),.bool true])∧Ext w w'):=Hi (fun w h=>by
     have:=HIH.out x N (lv+1) (rm-((a:Int)+1+b+sk)) w h HFX.out (by omega) (by omega) (by rw [hlx];omega) (by omega)
     rw [hlx] at this
     exact this)
    clear hlx
    go_wp2_with fail
    with_reducible refine (HC.out _ (HKN.out.ext ((Ext.refl _).alloc _))).mono ?_
    rintro e w3 ⟨rfl,hb3⟩
    have HE3:=Hi ((HE.out.alloc _).trans hb3)
    clear hb3
    go_wp2
    go_roundw
    case rel=>exact ⟨k+1,by omega,by go_num,by rw [HSN.out];congr 1;omega,HE3⟩
    case measure=>simp [intOf];omega
  · obtain rfl:k=n:=by omega
    have hf:(((ks.take k).map (encT (d+1))).flatten).length=tot:=by rw [← HT.out,← HN.out,List.take_length]
    rw [hf]
    clear hf
    go_wp2
    go_ret2
    exact ⟨rfl,HE.out⟩
end Go.Proofs.YtnlenappjjlbjaaGreatDoor
namespace Go.Proofs.YtnlenappjjlbjaaGreatDoor
open Go.RowKit Go.Shelf

theorem byB_length (s:ByteArray):(byB s).length=s.size:=by
 unfold byB;rw [List.length_map,Array.length_toList];rfl
theorem encT_1 {d tn:Nat} {n:Int}:encT (d+1) (.mk tn 1 n ⟨#[]⟩ [])=varB tn ++ ([1] ++ varB (foldZ n).toNat):=by
 unfold encT;simp only [Nd.tag,Nd.kind,Nd.n,if_true,Int.toNat_natCast]
theorem encT_2 {d tn:Nat} {s:ByteArray}:encT (d+1) (.mk tn 2 0 s [])=varB tn ++ ([2] ++ (varB s.size ++ byB s)):=by
 unfold encT;simp only [Nd.tag,Nd.kind,Nd.s,if_true,Int.toNat_natCast];rw [if_neg (by decide)]
theorem encT_3 {d tn:Nat} {ks:List Nd}:encT (d+1) (.mk tn 3 0 ⟨#[]⟩ ks)=varB tn ++ ([3] ++ (varB ks.length ++ (ks.map (encT d)).flatten)):=by
 rw [encT];rw [if_neg (show ¬ (Nd.mk (tn:Int) 3 0 ⟨#[]⟩ ks).kind=1 by simp only [Nd.kind];decide),if_neg (show ¬ (Nd.mk (tn:Int) 3 0 ⟨#[]⟩ ks).kind=2 by simp only [Nd.kind];decide)];simp only [Nd.tag,Nd.kind,Nd.kids,Int.toNat_natCast]
theorem fits_cases {d:Nat} {x:Nd} (h:Fits (d+1) x):∃ tn:Nat,tn≤9999999∧((∃ n,In64 n∧x=.mk tn 1 n ⟨#[]⟩ [])∨(∃ s:ByteArray,s.size≤2000∧x=.mk tn 2 0 s [])∨(∃ ks:List Nd,0<d∧ks.length≤1024∧(∀ k∈ks,Fits d k)∧x=.mk tn 3 0 ⟨#[]⟩ ks)):=by
 unfold Fits at h
 obtain ⟨t,k,n,s,ks⟩:=x
 obtain ⟨⟨a,b⟩,h⟩:=h
 simp only [Nd.tag,Nd.kind,Nd.n,Nd.s,Nd.kids] at *
 obtain ⟨tn,rfl⟩:∃ tn:Nat,t=tn:=⟨t.toNat,by omega⟩
 refine ⟨tn,by omega,?_⟩
 rcases h with ⟨rfl,hn,hs,rfl⟩ | ⟨rfl,rfl,hs,rfl⟩ | ⟨hd,rfl,rfl,hs,hl,hk⟩
 · rw [empty_of hs];exact Or.inl ⟨n,hn,rfl⟩
 · exact Or.inr (Or.inl ⟨s,hs,rfl⟩)
 · rw [empty_of hs];exact Or.inr (Or.inr ⟨ks,hd,hl,hk,rfl⟩)
theorem mea_all (B:Nat):∀ d,MeaAt B d:=by
 have leaf : ∀ (d tn : Nat), tn ≤ 9999999 → ∀ (x : Nd) (M : Option Addr × Nat) (lv rm : Int) (w : World), ((∃ n, In64 n ∧ x = .mk tn 1 n ⟨#[]⟩ []) ∨ (∃ s : ByteArray, s.size ≤ 2000 ∧ x = .mk tn 2 0 s [])) → 0 ≤ lv → lv + d ≤ 8 → ((encT (d + 1) x).length : Int) ≤ rm → rm ≤ 1048576 →
     Calls Tryz.prog 55 #[nda x M,.int .i64 lv,.int .i64 rm] w fun e w'=>e=.returned (.tuple #[.int .i64 ((encT (d+1) x).length:Nat),.bool true])∧Ext w w':=by
  intro d tn ht x M lv rm w hx h1 h2 h3 h4
  rcases hx with ⟨n,hn,rfl⟩ | ⟨s,hs,rfl⟩
  · have hl:((encT (d+1) (.mk tn 1 n ⟨#[]⟩ [])).length:Int)=((varB tn).length:Int)+1+(varB (foldZ n).toNat).length:=by
      rw [encT_1];simp only [List.length_append,List.length_cons,List.length_nil];omega
    rw [hl] at h3 ⊢
    exact measure_1 tn n M lv rm w ht hn h1 (by omega) h3 h4
  · have hl:((encT (d+1) (.mk tn 2 0 s [])).length:Int)=((varB tn).length:Int)+1+((varB s.size).length+s.size):=by
      rw [encT_2];simp only [List.length_append,List.length_cons,List.length_nil,byB_length];omega
    rw [hl] at h3 ⊢
    exact measure_2 tn s M lv rm w ht hs h1 (by omega) h3 h4
 intro d
 induction d with
 | zero =>
  intro x M lv rm w hK hF h1 h2 h3 h4
  obtain ⟨tn,ht,hx | hx | ⟨ks,hd,_⟩⟩:=fits_cases hF
  · exact leaf 0 tn ht x M lv rm w (Or.inl hx) h1 h2 h3 h4
  · exact leaf 0 tn ht x M lv rm w (Or.inr hx) h1 h2 h3 h4
  · omega
 | succ d ih =>
  intro x M lv rm w hK hF h1 h2 h3 h4
  obtain ⟨tn,ht,hx | hx | ⟨ks,hd,hl,hk,rfl⟩⟩:=fits_cases hF
  · exact leaf (d+1) tn ht x M lv rm w (Or.inl hx) h1 h2 h3 h4
  · exact leaf (d+1) tn ht x M lv rm w (Or.inr hx) h1 h2 h3 h4
  · have hl':((encT (d+1+1) (.mk tn 3 0 ⟨#[]⟩ ks)).length:Int)=((varB tn).length:Int)+1+(varB ks.length).length+((ks.map (encT (d+1))).flatten).length:=by
      rw [encT_3];simp only [List.length_append,List.length_cons,List.length_nil];omega
    rw [hl'] at h3 ⊢
    exact measure_3 B d ih tn ks M lv rm w hK hk ht hl h1 (by omega) h3 h4
end Go.Proofs.YtnlenappjjlbjaaGreatDoor
namespace Go.Proofs.YtnlenappjjlbjaaGreatDoor
open Go.RowKit Go.Shelf

def NdK (w w':World):Prop:=w.heap.size≤w'.heap.size∧∀ (q:Nat) (cs:Array Value),w.heap[q]?=some (.cells cs 52 (0,0))→w'.heap[q]?=some (.cells cs 52 (0,0))
theorem NdK.trans {a b c:World} (h:NdK a b) (g:NdK b c):NdK a c:=⟨Nat.le_trans h.1 g.1,fun q cs hq=>g.2 q cs (h.2 q cs hq)⟩
theorem NdK.ext {a b:World} (h:Ext a b):NdK a b:=⟨h.size,fun _ _ hq=>h.blockAt hq⟩
theorem lt_of_some {w:World} {q:Nat} {o:Obj} (hq:w.heap[q]?=some o):q<w.heap.size:=by
 rcases Nat.lt_or_ge q w.heap.size with g | g
 · exact g
 · rw [Array.getElem?_eq_none g] at hq;cases hq
theorem NdK.fra {w w':World} {v v':Value} {base:Nat} {xs:List Int} (hr:RowU base xs w v) (h:Fra w v w' v'):NdK w w' :=
 ⟨h.1,fun q _ hq=>(h.2 q (lt_of_some hq) (fun e=>own_other hr hq (by decide) e.symm)).1.trans hq⟩
theorem NdK.grown {w w':World} {v:Value} {base:Nat} {xs:List Int} (hr:RowU base xs w v) (h:w.grownBy w' v.ownBlock):NdK w w' :=
 ⟨h.size,fun q _ hq=>(h.block q (lt_of_some hq) (fun e=>own_other hr hq (by decide) e.symm)).trans hq⟩
def apR (Wb:World) (g N0 base:Nat) (v:Value) (xs:List Int) (tn:Nat) (kd:Int) (cs:Array Value) (j:Nat) (u:Option Value) (w:World):Prop :=
 match j with
 | 0=>u=some v
 | 1=>u=some (.pointer (some ⟨g,0,none⟩))
 | 2=>u=some (.int .i64 tn)
 | 3=>u=some (.int .u64 tn)
 | 4=>∃ v',u=some v'∧RowU base (xs ++ varB tn) w v'
 | 5=>u=some (.pointer (some ⟨g,1,none⟩))
 | 6=>u=some (.int .i64 kd)
 | 7=>u=some (.int .u8 kd)
 | 8=>∃ q,u=some (.slice (some ⟨q,0,none⟩) 1 1)∧N0≤q∧q<w.heap.size∧w.cell? ⟨q,0,none⟩=some (.int .u8 kd)
 | 9=>∃ v',u=some v'∧RowU base (xs ++ varB tn ++ [kd]) w v'
 | 10=>∃ v',u=some v'∧RowU base (xs ++ varB tn ++ [kd]) w v'
 | 11=>w.heap[g]?=some (.cells cs 52 (0,0))∧N0≤w.heap.size∧NdK Wb w
 | 12=>RowU base xs w v
 | _=>u=none
def apC:Nat→Option Nat
 | 4=>some 9
 | 8=>some 9
 | 12=>some 4
 | 13=>some 10
 | _=>none
def apD:List Nat:=[7,8,9,10,11,12,13,14,15,16,0,1000,1001,0]
def wrD:List Nat:=[11,12,13,14,15,16,17,18,19,20,0,1000,1001,0]
def apE (z g:Nat) (v:Value) (t:Array Value):Prop:=t.getD 0 undef=v∧t.getD 3 undef=.pointer (some ⟨g,0,none⟩)∧t.size=z
theorem apR_ext (Wb:World) (g N0 base:Nat) (v:Value) (xs:List Int) (tn:Nat) (kd:Int) (cs:Array Value) (j:Nat) (u:Option Value) (w w':World) (he:Ext w w') (h:apR Wb g N0 base v xs tn kd cs j u w):apR Wb g N0 base v xs tn kd cs j u w':=by
 match j,h with
 | 0,h=>exact h
 | 1,h=>exact h
 | 2,h=>exact h
 | 3,h=>exact h
 | 4,⟨v',h1,h2⟩=>exact ⟨v',h1,own_ext h2 he⟩
 | 5,h=>exact h
 | 6,h=>exact h
 | 7,h=>exact h
 | 8,⟨q,h1,h2,h3,h4⟩=>exact ⟨q,h1,h2,Nat.lt_of_lt_of_le h3 he.size,he.keep h4⟩
 | 9,⟨v',h1,h2⟩=>exact ⟨v',h1,own_ext h2 he⟩
 | 10,⟨v',h1,h2⟩=>exact ⟨v',h1,own_ext h2 he⟩
 | 11,⟨h1,h2,h3⟩=>exact ⟨he.blockAt h1,Nat.le_trans h2 he.size,h3.trans (NdK.ext he)⟩
 | 12,h=>exact own_ext h he
 | j+13,h=>exact h
theorem apR_fra (Wb : World) (g N0 base : Nat) (v : Value) (xs : List Int) (tn : Nat) (kd : Int) (cs : Array Value) (hv : ∀ k, v.ownBlock = some k → k < N0) (j : Nat) (u : Option Value) (w w' : World) (v' : Value) (he : Fra w v w' v') (hn : NdK w w')
    (h4:j≠4) (h9:j≠9) (h10:j≠10) (h12:j≠12) (h:apR Wb g N0 base v xs tn kd cs j u w):apR Wb g N0 base v xs tn kd cs j u w':=by
 match j,h with
 | 0,h=>exact h
 | 1,h=>exact h
 | 2,h=>exact h
 | 3,h=>exact h
 | 4,_=>exact absurd rfl h4
 | 5,h=>exact h
 | 6,h=>exact h
 | 7,h=>exact h
 | 8,⟨q,h1,h2,h3,h4⟩ =>
  refine ⟨q,h1,h2,Nat.lt_of_lt_of_le h3 he.1,?_⟩
  rw [World.cell?_of_block (w:=w) (w':=w') ((he.2 q h3 (fun e=>by have:=hv q e.symm;omega)).1)]
  exact h4
 | 9,_=>exact absurd rfl h9
 | 10,_=>exact absurd rfl h10
 | 11,⟨h1,h2,h3⟩=>exact ⟨hn.2 _ _ h1,Nat.le_trans h2 he.1,h3.trans hn⟩
 | 12,_=>exact absurd rfl h12
 | j+13,h=>exact h
theorem exec_append2 {P : Program} {ev : Operand → Value} {o : Oper} {w w' : World} {s x : Operand} {t t' : TypeId} {v y v' : Value} (ho : o.op = .call { callee := .builtin .append, args := #[s, x], argTypes := #[t, t'] }) (hs : ev s = v) (hx : ev x = y)
    (hr:(Builtin.append_ #[t,t'] o.type #[v,y]).run P w=.ok v' w'):(execOp ev o).run P w=.ok (.value v') w':=by
 unfold execOp
 simp only [ho,resolve,invoke,builtin,Sem.run_bind,Sem.run_pure,Result.andThen_ok,List.map_toArray,List.map_cons,List.map_nil,hs,hx,hr]
theorem byB_cells (s:ByteArray):Lib.strCells s=(byB s).map (Value.int .u8):=by
 unfold Lib.strCells byB
 rw [List.map_map]
 rfl
def asR (Wb:World) (g base:Nat) (v:Value) (xs:List Int) (s:ByteArray) (cs:Array Value) (j:Nat) (u:Option Value) (w:World):Prop :=
 match j with
 | 0=>u=some v
 | 1=>u=some (.pointer (some ⟨g,3,none⟩))
 | 2=>u=some (.string s)
 | 3=>u=some (.int .i64 (s.size:Int))
 | 4=>u=some (.int .u64 (s.size:Int))
 | 5=>∃ v',u=some v'∧RowU base (xs ++ varB s.size) w v'
 | 6=>u=some (.pointer (some ⟨g,3,none⟩))
 | 7=>u=some (.string s)
 | 8=>∃ v',u=some v'∧RowU base (xs ++ varB s.size ++ byB s) w v'
 | 9=>∃ v',u=some v'∧RowU base (xs ++ varB s.size ++ byB s) w v'
 | 10=>w.heap[g]?=some (.cells cs 52 (0,0))∧base≤w.heap.size∧NdK Wb w
 | _=>RowU base xs w v
def asC:Nat→Option Nat
 | 5=>some 8
 | 11=>some 5
 | _=>none
def asD:List Nat:=[28,29,30,31,32,33,34,35,36,4,1000,1001]
def wsD:List Nat:=[44,45,46,47,48,49,50,51,52,4,1000,1001]
theorem asR_fra (Wb : World) (g base : Nat) (v : Value) (xs : List Int) (s : ByteArray) (cs : Array Value) (j : Nat) (u : Option Value) (w w' : World) (hn : NdK w w')
    (h5:j≠5) (h8:j≠8) (h9:j≠9) (h11:j<11) (h:asR Wb g base v xs s cs j u w):asR Wb g base v xs s cs j u w':=by
 match j,h with
 | 0,h=>exact h
 | 1,h=>exact h
 | 2,h=>exact h
 | 3,h=>exact h
 | 4,h=>exact h
 | 5,_=>exact absurd rfl h5
 | 6,h=>exact h
 | 7,h=>exact h
 | 8,_=>exact absurd rfl h8
 | 9,_=>exact absurd rfl h9
 | 10,⟨h1,h2,h3⟩=>exact ⟨hn.2 _ _ h1,Nat.le_trans h2 hn.1,h3.trans hn⟩
 | j+11,_=>omega
end Go.Proofs.YtnlenappjjlbjaaGreatDoor
namespace Go.Proofs.YtnlenappjjlbjaaGreatDoor
open Go.RowKit

theorem flat_le {α:Type} {f:α→List Int} {c:Nat}:∀ (l:List α),(∀ k∈l,(f k).length≤c)→((l.map f).flatten).length≤l.length*c
 | [],_=>by simp
 | x :: l,h=>by
  rw [List.map_cons,List.flatten_cons,List.length_append,List.length_cons,Nat.add_mul]
  have h1:=h x (List.mem_cons_self ..)
  have h2:=flat_le l (fun k hk=>h k (List.mem_cons_of_mem _ hk))
  omega
theorem fits_I {d:Nat} {t n:Int} (h0:0≤t) (h1:t≤9999999) (hn:In64 n):Fits (d+1) (.mk t 1 n ⟨#[]⟩ [])∧(encT (d+1) (.mk t 1 n ⟨#[]⟩ [])).length≤21:=by
 constructor
 · unfold Fits;exact ⟨⟨h0,h1⟩,Or.inl ⟨rfl,hn,rfl,rfl⟩⟩
 · obtain ⟨tn,rfl⟩:∃ tn:Nat,t=tn:=⟨t.toNat,by omega⟩
   rw [encT_1]
   simp only [List.length_append,List.length_cons,List.length_nil]
   have h1:=varB_len tn (by omega)
   have h2:=varB_len (foldZ n).toNat (by have:=fold_lt hn;have:=fold_nonneg (n:=n);omega)
   omega
theorem fits_S {d:Nat} {t:Int} {s:ByteArray} (h0:0≤t) (h1:t≤9999999) (hs:s.size≤2000):Fits (d+1) (.mk t 2 0 s [])∧(encT (d+1) (.mk t 2 0 s [])).length≤21+s.size:=by
 constructor
 · unfold Fits;exact ⟨⟨h0,h1⟩,Or.inr (Or.inl ⟨rfl,rfl,hs,rfl⟩)⟩
 · obtain ⟨tn,rfl⟩:∃ tn:Nat,t=tn:=⟨t.toNat,by omega⟩
   rw [encT_2]
   simp only [List.length_append,List.length_cons,List.length_nil,byB_length]
   have h1:=varB_len tn (by omega)
   have h2:=varB_len s.size (by omega)
   omega
theorem fits_L {d c:Nat} {t:Int} {ks:List Nd} (h0:0≤t) (h1:t≤9999999) (hd:0<d) (hl:ks.length≤1024) (hk:∀ k∈ks,Fits d k∧(encT d k).length≤c):Fits (d+1) (.mk t 3 0 ⟨#[]⟩ ks)∧(encT (d+1) (.mk t 3 0 ⟨#[]⟩ ks)).length≤21+ks.length*c:=by
 constructor
 · unfold Fits;exact ⟨⟨h0,h1⟩,Or.inr (Or.inr ⟨hd,rfl,rfl,rfl,hl,fun k h=>(hk k h).1⟩)⟩
 · obtain ⟨tn,rfl⟩:∃ tn:Nat,t=tn:=⟨t.toNat,by omega⟩
   rw [encT_3]
   simp only [List.length_append,List.length_cons,List.length_nil]
   have h1:=varB_len tn (by omega)
   have h2:=varB_len ks.length (by omega)
   have h3:=flat_le (f:=encT d) ks (fun k h=>(hk k h).2)
   omega
theorem fits_LI {t:Int} {l:List Int} (h0:0≤t) (h1:t≤9999999) (hl:l.length≤10) (h:∀ x∈l,In64 x):Fits 2 (.mk t 3 0 ⟨#[]⟩ (l.map leafI))∧(encT 2 (.mk t 3 0 ⟨#[]⟩ (l.map leafI))).length≤2300:=by
 have:=fits_L (d:=1) (c:=21) (ks:=l.map leafI) h0 h1 (by omega) (by rw [List.length_map];omega) (fun k hk=>by
  obtain ⟨x,hx,rfl⟩:=List.mem_map.1 hk
  exact fits_I (by omega) (by omega) (h x hx))
 rw [List.length_map] at this
 exact ⟨this.1,Nat.le_trans this.2 (by omega)⟩
theorem fits_LS {t:Int} {l:List ByteArray} (h0:0≤t) (h1:t≤9999999) (hl:l.length≤10) (h:∀ x∈l,x.size≤200):Fits 2 (.mk t 3 0 ⟨#[]⟩ (l.map leafS))∧(encT 2 (.mk t 3 0 ⟨#[]⟩ (l.map leafS))).length≤2300:=by
 have:=fits_L (d:=1) (c:=221) (ks:=l.map leafS) h0 h1 (by omega) (by rw [List.length_map];omega) (fun k hk=>by
  obtain ⟨x,hx,rfl⟩:=List.mem_map.1 hk
  have hx:=h x hx
  have:=fits_S (d:=0) (t:=0) (s:=x) (by omega) (by omega) (by omega)
  exact ⟨this.1,Nat.le_trans this.2 (by omega)⟩)
 rw [List.length_map] at this
 exact ⟨this.1,Nat.le_trans this.2 (by omega)⟩
theorem It.vld_texts {it:It.Item} (h:It.vld it=0):it.stem.size≤2000∧it.cont.size≤24∧(∀ s∈it.opts,s.size≤200)∧∀ s∈it.texts,s.size≤200:=by
 have ht:It.textsOk it=true:=by
  unfold It.vld at h
  split at h
  · cases h
  split at h
  · cases h
  split at h
  · cases h
  · rename_i h3;simpa using h3
 unfold It.textsOk at ht
 simp only [Bool.and_eq_true,List.all_eq_true] at ht
 obtain ⟨h1,h2,h3,h4⟩:=ht
 have hp:∀ {s:ByteArray} {m:Nat} {b:Bool},It.prn s m b=true→s.size≤m:=by
  intro s m b h
  unfold It.prn at h
  simp only [Bool.and_eq_true,decide_eq_true_eq] at h
  exact h.1.2
 refine ⟨hp h1,?_,fun s hs=>hp (h2 s hs),fun s hs=>hp (h3 s hs)⟩
 unfold It.codeC at h4
 simp only [Bool.and_eq_true,decide_eq_true_eq] at h4
 exact h4.1
theorem fits_tree {it:It.Item} (ho:It.Ok it) (h:It.vld it=0):Fits 3 (tree it)∧(encT 3 (tree it)).length≤1048576:=by
 obtain ⟨l1,l2,l3,l4⟩:=It.vld_small h
 obtain ⟨t1,t2,t3,t4⟩:=It.vld_texts h
 have hi:∀ {t n:Int},0≤t→t≤9999999→In64 n→Fits 2 (.mk t 1 n ⟨#[]⟩ [])∧(encT 2 (.mk t 1 n ⟨#[]⟩ [])).length≤2300:=fun h0 h1 hn=>⟨(fits_I h0 h1 hn).1,Nat.le_trans (fits_I h0 h1 hn).2 (by omega)⟩
 have hs:∀ {t:Int} {s:ByteArray},0≤t→t≤9999999→s.size≤2000→Fits 2 (.mk t 2 0 s [])∧(encT 2 (.mk t 2 0 s [])).length≤2300:=fun h0 h1 hn=>⟨(fits_S h0 h1 hn).1,Nat.le_trans (fits_S h0 h1 hn).2 (by omega)⟩
 have:=fits_L (d:=2) (c:=2300) (t:=14) (ks:=flds it) (by omega) (by omega) (by omega) (by simp [flds]) (fun k hk=>by
  simp only [flds,List.mem_cons,List.not_mem_nil,or_false] at hk
  rcases hk with rfl | rfl | rfl | rfl | rfl | rfl | rfl | rfl | rfl | rfl | rfl | rfl | rfl | rfl | rfl | rfl | rfl
  · exact hi (by omega) (by omega) ho.id
  · exact hi (by omega) (by omega) ho.ver
  · exact hi (by omega) (by omega) ho.kind
  · exact hs (by omega) (by omega) t1
  · exact fits_LS (by omega) (by omega) l1 t3
  · exact fits_LI (by omega) (by omega) l2 ho.chs
  · exact hi (by omega) (by omega) ho.value
  · exact hi (by omega) (by omega) ho.tol
  · exact fits_LS (by omega) (by omega) l3 t4
  · exact hi (by omega) (by omega) ho.pts
  · exact hs (by omega) (by omega) (by omega)
  · exact hi (by omega) (by omega) ho.fam
  · exact hi (by omega) (by omega) ho.set_
  · exact hi (by omega) (by omega) ho.wrd
  · exact hi (by omega) (by omega) ho.sec
  · exact fits_LI (by omega) (by omega) (by omega) ho.assets
  · exact hi (by omega) (by omega) ho.rub)
 refine ⟨this.1,Nat.le_trans this.2 ?_⟩
 have:(flds it).length=17:=rfl
 omega
end Go.Proofs.YtnlenappjjlbjaaGreatDoor
