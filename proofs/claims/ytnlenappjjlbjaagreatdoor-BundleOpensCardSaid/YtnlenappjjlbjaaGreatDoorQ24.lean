/- Sealing and opening bytes in the reference: contracts. Conditions: those of each theorem. -/
import Derived.Test.YtnlenappjjlbjaaGreatDoorQ22
import Derived.Test.YtnlenappjjlbjaaGreatDoorQ23
namespace Go.Proofs.YtnlenappjjlbjaaGreatDoor
open Go.ChangeShapes Go.WideShapes Go.ChangeAt Go.RowKit Go.Shelf
def BlU (w:World) (g:Nat) (P:List Int):Prop:=w.heap[g]?=some (.cells (P.map (Value.int .u8)).toArray 5 (0,0))
theorem BlU.lt {w:World} {g:Nat} {P:List Int} (h:BlU w g P):g<w.heap.size:=by
 rcases Nat.lt_or_ge g w.heap.size with h1 | h1
 · exact h1
 · unfold BlU at h;rw [Array.getElem?_eq_none h1] at h;cases h
theorem BlU.cell {w:World} {g:Nat} {P:List Int} (h:BlU w g P) {i:Nat} (hi:i<P.length):w.cell? ⟨g,i,none⟩=some (.int .u8 P[i])∧w.frozen? ⟨g,i,none⟩=false:=by
 unfold BlU at h
 constructor
 · simp [World.cell?,h,hi]
 · simp [World.frozen?,h]
theorem BlU.set {w:World} {g:Nat} {P:List Int} (h:BlU w g P) (i:Nat) (v:Int):BlU (w.setCell ⟨g,i,none⟩ (.int .u8 v)) g (P.set i v):=by
 have:=heap_setCell_same w g i _ _ (.int .u8 v) h
 unfold BlU
 rw [this,List.map_set]
 simp
theorem BlU.sl {w:World} {g:Nat} {P:List Int} (h:BlU w g P):SlU w (some ⟨g,0,none⟩) P:=Or.inr ⟨g,0,rfl,h.lt,fun i cs hi j v hv=>by
 rw [List.getElem?_map] at hi
 cases hx:P[i]? with
 | none=>rw [hx] at hi;cases hi
 | some x =>
  rw [hx] at hi
  cases hi
  match j,hv with
  | 0,hv =>
   cases hv
   obtain ⟨hlt,rfl⟩:=List.getElem?_eq_some_iff.1 hx
   rw [show 0+(i*1+0)=i by omega]
   exact (h.cell hlt).1⟩
theorem BlU.made (w:World) (n:Nat):BlU (w.alloc (.cells (madeCells #[.int .u8 0] n) 5)) w.heap.size (List.replicate n 0):=by
 unfold BlU
 rw [heap_alloc_new]
 congr 2
 apply Array.ext'
 simp [madeCells,Nat.mod_one]
 rw [List.map_const',List.length_range]
theorem make_u8n (n:Nat) (hn:n≤2000000) (w:World):(Instr.makeSlice 24 (.int .i64 (n:Int)) (.int .i64 (n:Int))).run Tryz.prog w=.ok (.slice (some ⟨w.heap.size,0,none⟩) n n) (w.alloc (.cells (madeCells #[.int .u8 0] n) 5)) :=
 run_make_row' (P:=Tryz.prog) 24 5 (.int .u8 0) 1 Tryz.underlying24 Tryz.infoU8 rfl .i64 .i64 n (by omega) (by omega) w
def lenV:Value→Nat
 | .slice _ n _=>n
 | _=>0
theorem own_cap {w:World} {base n m c:Nat} {e:TypeId} {A:Option Addr} {xs:List Value} (h:w.ownsRow base e 1 (.slice A n c) m xs):n≤c:=by
 rcases h.2 with ⟨h1,-⟩ | ⟨g,cap,cur,h1,-,-,h2,-⟩
 · cases h1;exact Nat.le_refl _
 · cases h1;exact h2
namespace Bu
theorem set_rep (j:Nat) (L:List Int) (v:Int):(List.replicate (j+1) 0 ++ L).set j v=List.replicate j 0 ++ v :: L:=by
 rw [List.replicate_succ',List.append_assoc,List.set_append_right _ _ (by rw [List.length_replicate];exact Nat.le_refl _),List.length_replicate,Nat.sub_self]
 rfl
theorem pow_div (x:Int) (k:Nat):x / 256 ^ (k+1)=x / 256 ^ k / 256:=by rw [Int.pow_succ,Int.ediv_ediv_of_nonneg (Int.le_of_lt (pow_pos k))]
def ksL (s:Int) (n:Nat):List Int:=(List.range n).map (ksA s)
theorem ksL_len (s:Int) (n:Nat):(ksL s n).length=n:=by unfold ksL;rw [List.length_map,List.length_range]
theorem ksL_take (s:Int) {n m:Nat} (h:n≤m):(ksL s m).take n=ksL s n:=by unfold ksL;rw [← List.map_take,List.take_range,Nat.min_eq_left h]
theorem ksL_at (s:Int) {n i:Nat} (h:i<n):(ksL s n)[i]?=some (ksA s i):=by unfold ksL;rw [List.getElem?_map,List.getElem?_range h];rfl
theorem ksL_next (s:Int) (m:Nat):ksL s (4*(m+1))=ksL s (4*m) ++ [ksA s (4*m),ksA s (4*m+1),ksA s (4*m+2),ksA s (4*m+3)]:=by
 unfold ksL
 rw [show 4*(m+1)=4*m+1+1+1+1 by omega,List.range_succ,List.range_succ,List.range_succ,List.range_succ]
 simp
theorem ks4 (s:Int) (m:Nat) {z:Int} (hz:z=sts s (m+1) / 4294967296):ksA s (4*m)=z / 16777216 % 256∧ksA s (4*m+1)=z / 65536 % 256∧ksA s (4*m+2)=z / 256 % 256∧ksA s (4*m+3)=z % 256:=by
 have e:∀ r:Nat,r<4→ksA s (4*m+r)=z / 2 ^ (24-8*r) % 256:=fun r hr=>by
  unfold ksA
  rw [show (4*m+r) / 4=m by omega,show (4*m+r) % 4=r by omega,hz]
 refine ⟨e 0 (by omega),e 1 (by omega),e 2 (by omega),?_⟩
 rw [e 3 (by omega)]
 show z / 1 % 256=z % 256
 rw [Int.ediv_one]
end Bu
set_option maxRecDepth 100000 in
set_option maxHeartbeats 6400000 in
theorem eight_any (x:Int) (hx:Bu.U64 x) (w:World):Calls Tryz.prog 70 #[.int .u64 x] w fun e w'=>e=.returned (.slice (some ⟨w.heap.size,0,none⟩) 8 8)∧BlU w' w.heap.size (Bu.beB 8 x)∧Ext w w':=by
 have H0:=hx.1
 have H1:=hx.2
 clear hx
 have hmk:(Instr.makeSlice 24 (.int .i64 8) (.int .i64 8)).run Tryz.prog w=.ok (.slice (some ⟨w.heap.size,0,none⟩) 8 8) (w.alloc (.cells (madeCells #[.int .u8 0] 8) 5)):=make_u8n 8 (by omega) w
 have HM:=Hi (BlU.made w 8)
 have HEW:=Hi ((Ext.refl w).alloc (.cells (madeCells #[.int .u8 0] 8) 5))
 generalize w.alloc (.cells (madeCells #[.int .u8 0] 8) 5)=W at *
 go_enter Tryz.func70,Tryz.ntmps70
 go_wp2
 go_loopw [0,4] (fun m i wr=>∃ k:Nat,k≤8∧i=.int .i64 (7-(k:Int))∧m=.int .u64 (x / 256 ^ k)∧Hid (BlU wr w.heap.size (List.replicate (8-k) 0 ++ Bu.beB k x))∧Hid (Ext w wr)) (fun _ i _=>(intOf i+1).toNat)
 case atStart=>exact ⟨0,by omega,rfl,by rw [Int.pow_zero,Int.ediv_one],Hi (by rw [show Bu.beB 0 x=[] from rfl,List.append_nil];exact HM.out),HEW⟩
 case round =>
  obtain ⟨k,hk,rfl,rfl,HB,HE⟩:=hrel
  have hp:=Bu.pow_pos k
  have hy0:0≤x / 256 ^ k:=Int.ediv_nonneg H0 (by omega)
  have hy1:x / 256 ^ k<18446744073709551616:=Int.lt_of_le_of_lt (Int.ediv_le_self _ H0) H1
  have HD:=Hi (Bu.pow_div x k)
  have HBB:Hid (Bu.beB (k+1) x=x / 256 ^ k % 256 :: Bu.beB k x):=Hi rfl
  obtain ⟨y,hy⟩:∃ y,x / 256 ^ k=y:=⟨_,rfl⟩
  rw [hy] at hy0 hy1 HD HBB ⊢
  have HY:=Hi hy
  clear hy hp
  by_cases hlt:k<8
  · obtain ⟨j,hj⟩:∃ j:Nat,7-(k:Int)=(j:Int):=⟨7-k,by omega⟩
    rw [hj]
    have hj8:(j:Int)<8:=by omega
    have hj0:(0:Int)≤(j:Int):=by omega
    obtain ⟨c1,c2⟩:=HB.out.cell (i:=j) (by rw [List.length_append,List.length_replicate,Bu.beB_len];omega)
    generalize (List.replicate (8-k) 0 ++ Bu.beB k x)[j]'_=z0 at *
    have HBS:=Hi (HB.out.set j (y % 256))
    rw [show 8-k=j+1 by omega,Bu.set_rep,← HBB.out,show j=8-(k+1) by omega] at HBS
    rw [show 8-(k+1)=j by omega] at HBS
    have HJ:=Hi hj
    clear hj
    go_wp2
    go_roundw
    case rel=>exact ⟨k+1,by omega,by have:=HJ.out;first | go_num | (congr 1;omega),by rw [HD.out],Hi (by have:=HJ.out;rw [show 8-(k+1)=j by omega];exact HBS.out),Hi (HE.out.setCell (Nat.le_refl _) _)⟩
    case measure=>simp [intOf] <;> omega
  · obtain rfl:k=8:=by omega
    go_wp2
    go_ret
    exact ⟨rfl,by have:=HB.out;simpa using this,HE.out⟩
set_option maxRecDepth 100000 in
set_option maxHeartbeats 6400000 in
theorem stream_any (key nonce : Int) (hkey : Bu.U64 key) (hnonce : Bu.U64 nonce) (n : Nat) (hl : n ≤ 1048600) (w : World) :
    Calls Tryz.prog 104 #[.int .u64 key,.int .u64 nonce,.int .i64 (n:Int)] w fun e w'=>(∃ A c,e=.returned (.slice A n c)∧SlU w' A (Bu.ksL (Bu.sd key nonce) n))∧Ext w w':=by
 obtain ⟨i0,hi0,hz0,hz1,hz2⟩:=info_parts Tryz.infoU8
 have K1:=Hi (eight_any nonce hnonce w)
 have K2:=Hi (fun A c w (hs:SlU w A (Bu.beB 8 nonce))=>rchainD_any key hkey A c (Bu.beB 8 nonce) (n:=8) (Bu.beB_len 8 nonce) rfl w hs (by omega))
 obtain ⟨s,hs⟩:∃ s,Bu.sd key nonce=s:=⟨_,rfl⟩
 have K3:=Hi (fun w=>rnewD_any (Bu.chain key (Bu.beB 8 nonce)) (v:=s) hs w)
 rw [hs]
 generalize Bu.chain key (Bu.beB 8 nonce)=ch at *
 clear hs hkey hnonce
 go_enter Tryz.func104,Tryz.ntmps104
 go_wp2_with fail
 with_reducible refine K1.out.mono ?_
 rintro e w1 ⟨rfl,hb1,he1⟩
 have HS1:=Hi hb1.sl
 have HW1:=Hi he1
 clear hb1 he1 K1
 go_wp2_with fail
 with_reducible refine (K2.out _ 8 w1 HS1.out).mono ?_
 rintro e _ ⟨rfl,rfl⟩
 clear K2 HS1
 go_wp2_with fail
 with_reducible refine (K3.out w1).mono ?_
 rintro e _ ⟨rfl,rfl⟩
 clear K3
 go_wp2
 go_loopw [7,8] (fun d b wr=>∃ (m:Nat),4*m≤n+3∧d=.int .u64 (Bu.sts s m)∧Hid (RowU w.heap.size (Bu.ksL s (4*m)) wr b)∧Hid (Ext w wr)) (fun _ b _=>n-lenV b)
 case atStart=>exact ⟨0,by omega,rfl,Hi (RowU.nil _ _),HW1⟩
 case round =>
  obtain ⟨m,hm,rfl,HR,HW⟩:=hrel
  obtain ⟨A,c,rfl⟩:=own_form HR.out
  have HO0:Hid (wr.ownsRow w.heap.size 5 1 (.slice A (Bu.ksL s (4*m)).length c) (Bu.ksL s (4*m)).length ((Bu.ksL s (4*m)).map (Value.int .u8))):=HR
  have HSL:=Hi (Bu.ksL_len s (4*m))
  rw [HSL.out] at HO0 ⊢
  obtain ⟨c4,hc4⟩:∃ q,4*m=q:=⟨_,rfl⟩
  rw [hc4] at hm HO0 ⊢
  have HO:=HO0
  clear HO0
  have HC4:=Hi hc4
  by_cases hlt:c4<n
  · obtain ⟨d,hd⟩:∃ d,Bu.sts s (m+1)=d:=⟨_,rfl⟩
    have HD:=Hi hd
    have hd0:0≤d:=by rw [← hd];exact (Bu.sts_range s _ (by omega)).1
    have hd1:d<18446744073709551616:=by rw [← hd];exact (Bu.sts_range s _ (by omega)).2
    have K4:=Hi (rnextD_any (Bu.sts s m) (v:=d) (by rw [← hd];rfl) wr)
    generalize Bu.sts s m=d0 at *
    clear hd hc4
    have hlti:(c4:Int)<(n:Int):=by omega
    go_wp2_with fail
    with_reducible refine K4.out.mono ?_
    rintro e _ ⟨rfl,rfl⟩
    obtain ⟨z,hz⟩:∃ z,d / 4294967296=z:=⟨_,rfl⟩
    have hz0':0≤z:=by omega
    have hz1':z<4294967296:=by omega
    have HZ:Hid (z=Bu.sts s (m+1) / 4294967296):=Hi (by rw [HD.out,hz])
    have HK:Hid (Bu.ksA s (4*m)=z / 16777216∧Bu.ksA s (4*m+1)=z / 65536 % 256∧Bu.ksA s (4*m+2)=z / 256 % 256∧Bu.ksA s (4*m+3)=z % 256):=Hi (by
     obtain ⟨q1,q2⟩:=Bu.ks4 s m HZ.out
     exact ⟨by rw [q1];omega,q2⟩)
    rw [hz]
    clear hz K4
    have HSA:Hid (Sl (wr.alloc (.cells #[.int .u8 (z / 16777216),.int .u8 (z / 65536 % 256),.int .u8 (z / 256 % 256),.int .u8 (z % 256)] 5)) 1 (some ⟨wr.heap.size,0,none⟩) [[.int .u8 (z / 16777216)],[.int .u8 (z / 65536 % 256)],[.int .u8 (z / 256 % 256)],[.int .u8 (z % 256)]]):=Hi (by
     exact Sl.new wr [.int .u8 (z / 16777216),.int .u8 (z / 65536 % 256),.int .u8 (z / 256 % 256),.int .u8 (z % 256)] _)
    have HEA:Hid (Ext w (wr.alloc (.cells #[.int .u8 (z / 16777216),.int .u8 (z / 65536 % 256),.int .u8 (z / 256 % 256),.int .u8 (z % 256)] 5))):=Hi (HW.out.alloc _)
    have HOA:Hid ((wr.alloc (.cells #[.int .u8 (z / 16777216),.int .u8 (z / 65536 % 256),.int .u8 (z / 256 % 256),.int .u8 (z % 256)] 5)).ownsRow w.heap.size 5 1 (.slice A c4 c) c4 ((Bu.ksL s c4).map (Value.int .u8))):=Hi (HO.out.alloc _)
    clear HO
    have HO:=HOA
    clear HOA
    go_wp2_with (at_builtin;refine wpList_appS rfl _ _ 24 rfl w 5 i0 (.int .u8 0) 1 1 Tryz.underlying24 hi0 hz0 hz1 hz2 rfl (by decide) (.slice A c4 c) c4 _ rfl HO.out HEA.out (some ⟨wr.heap.size,0,none⟩) 4 4 _ rfl rfl HSA.out (by simp) (by simp [Value.oneCell']) (by unfold maxLen;omega) (by omega) ?_;intro A' c' w9 hown9 hb9)
    have HR9:Hid (RowU w.heap.size (Bu.ksL s (4*(m+1))) w9 (.slice A' (c4+4) c')):=Hi (by
     obtain ⟨k1,k2,k3,k4⟩:=HK.out
     unfold RowU
     rw [Bu.ksL_next,k1,k2,k3,k4,HC4.out,List.length_append,Bu.ksL_len,List.map_append]
     exact hown9)
    have HW9:=Hi hb9
    have HDD:Hid (Value.int IntKind.u64 d=Value.int IntKind.u64 (Bu.sts s (m+1))):=Hi (by rw [HD.out])
    clear hown9 hb9
    go_wp2
    go_roundw
    case rel=>exact ⟨m+1,by have:=HC4.out;omega,HDD.out,HR9,HW9⟩
    case measure=>simp [lenV] <;> omega
  · have hlti:¬ (c4:Int)<(n:Int):=by omega
    have hcap:c4≤c:=own_cap HO.out
    obtain ⟨A3,c3,e3,hs3⟩:=RowU.sl HR.out
    rw [HSL.out,hc4] at e3
    cases e3
    have HS:=Hi (SlU.take1 hs3 n)
    rw [Bu.ksL_take s (by omega)] at HS
    have hnc:(n:Int)≤(c:Int):=by omega
    clear hs3 hc4
    go_wp2
    go_ret
    exact ⟨⟨A,⟨c,rfl⟩,HS.out⟩,HW.out⟩
set_option maxRecDepth 100000 in
set_option maxHeartbeats 6400000 in
theorem mix_any (key nonce : Int) (hkey : Bu.U64 key) (hnonce : Bu.U64 nonce) (A : Option Addr) (c : Nat) (ps : List Int) {n : Nat} (hn : ps.length = n) (hl : n ≤ 1048600) (w : World) (h : SlU w A ps) :
    Calls Tryz.prog 71 #[.int .u64 key,.int .u64 nonce,.slice A n c] w fun e w'=>(∃ A' c',e=.returned (.slice A' n c')∧SlU w' A' (Bu.mix key nonce ps)∧n≤c')∧Ext w w':=by
 have K1:=Hi (stream_any key nonce hkey hnonce n hl w)
 obtain ⟨s,hs⟩:∃ s,Bu.sd key nonce=s:=⟨_,rfl⟩
 have HM:Hid (Bu.mix key nonce ps=Bu.mixA s 0 ps):=Hi (by unfold Bu.mix;rw [hs])
 rw [HM.out]
 rw [hs] at K1
 have H:=Hi h
 have HN:=Hi hn
 have HML:Hid ((Bu.mixA s 0 ps).length=n):=Hi (by rw [Bu.mixA_len,hn])
 clear h hs HM hn hkey hnonce
 go_enter Tryz.func71,Tryz.ntmps71
 go_wp2_with fail
 with_reducible refine K1.out.mono ?_
 rintro e w1 ⟨⟨A1,c1,rfl,hs1⟩,he1⟩
 have HS1:=Hi hs1
 have HE1:=Hi he1
 clear hs1 he1 K1
 have hmk:=make_u8n n (by omega) w1
 have HB0:=Hi (BlU.made w1 n)
 have HX0:=Hi ((Ext.refl w1).alloc (.cells (madeCells #[.int .u8 0] n) 5))
 generalize w1.alloc (.cells (madeCells #[.int .u8 0] n) 5)=W at *
 go_wp2
 go_loopw [9] (fun i wr=>∃ k:Nat,k≤n∧i=.int .i64 (k:Int)∧Hid (BlU wr w1.heap.size ((Bu.mixA s 0 ps).take k ++ List.replicate (n-k) 0))∧Hid (Ext w1 wr)) (fun i _=>n-(intOf i).toNat)
 case atStart=>exact ⟨0,by omega,rfl,Hi (by rw [List.take_zero,List.nil_append,Nat.sub_zero];exact HB0.out),HX0⟩
 case round =>
  obtain ⟨k,hk,rfl,HB,HE⟩:=hrel
  by_cases hlt:k<n
  · have hlt':k<ps.length:=by rw [HN.out];exact hlt
    have HNE:=Hi (Bu.mix_next (s:=s) (List.getElem?_eq_getElem hlt'))
    obtain ⟨pb,po,rfl,hpb,px⟩:=((H.out.ext HE1.out).ext HE.out).at_ hlt'
    obtain ⟨kb,ko,rfl,hkb,kx⟩:=(HS1.out.ext HE.out).at_ (i:=k) (by rw [Bu.ksL_len];exact hlt)
    have ek:(Bu.ksL s n)[k]'(by rw [Bu.ksL_len];exact hlt)=Bu.ksA s k:=by
     have:=Bu.ksL_at s hlt
     rw [List.getElem?_eq_getElem (by rw [Bu.ksL_len];exact hlt)] at this
     exact Option.some.inj this
    rw [ek] at kx
    generalize ps[k]=p at *
    obtain ⟨c1',c2'⟩:=HB.out.cell (i:=k) (by rw [List.length_append,List.length_take,List.length_replicate,HML.out];omega)
    generalize ((Bu.mixA s 0 ps).take k ++ List.replicate (n-k) 0)[k]'_=z0 at *
    obtain ⟨q,hq⟩:∃ q,Bu.ksA s k=q:=⟨_,rfl⟩
    rw [hq] at kx
    have HXR:Hid (Bu.xr p (Bu.ksA s k)=bits BinOp.xor IntKind.u8 p q):=Hi (by rw [hq];rfl)
    have HBS:=Hi (HB.out.set k (bits BinOp.xor IntKind.u8 p q))
    have HL:Hid (((Bu.mixA s 0 ps).take k ++ List.replicate (n-k) 0).set k (bits BinOp.xor IntKind.u8 p q)=(Bu.mixA s 0 ps).take (k+1) ++ List.replicate (n-(k+1)) 0):=Hi (by
     rw [HNE.out,HXR.out,List.set_append_right _ _ (by rw [List.length_take,HML.out];omega),List.length_take,HML.out,Nat.min_eq_left hk,Nat.sub_self,show n-k=(n-(k+1))+1 by omega,List.replicate_succ,List.append_assoc]
     rfl)
    rw [HL.out] at HBS
    clear ek hq hlt' HXR HL
    have ki0:(0:Int)≤(k:Int):=by omega
    have ki1:(k:Int)<(n:Int):=by omega
    go_wp2_with fail
    go_region
    go_wp2
    go_roundw
    case rel=>exact ⟨k+1,by omega,by go_num,HBS,Hi ((HE.out.setCell (p:=⟨w1.heap.size,k,none⟩) (Nat.le_refl _) _).drew)⟩
    case measure=>simp [intOf] <;> omega
  · obtain rfl:k=n:=by omega
    have hf:(Bu.mixA s 0 ps).take k=Bu.mixA s 0 ps:=List.take_of_length_le (by rw [HML.out];omega)
    rw [hf,Nat.sub_self,List.replicate_zero,List.append_nil] at HB
    have HS:=Hi HB.out.sl
    clear hf
    go_wp2
    go_ret
    exact ⟨⟨_,_,rfl,HS.out,Nat.le_refl _⟩,HE1.out.trans HE.out⟩
theorem quiet_eq {P:Program} {f:FuncId} {args:Array Value} {w:World} {n:Nat} {v:Value} (h:Calls P f args (w.drewN n) fun e w'=>e=.returned v∧w.drewN n=w'):Calls P f args (w.drewN n) fun e w''=>e=.returned v∧∃ m,w''=w.drewN m :=
 h.mono fun _ _ ⟨he,hm⟩=>⟨he,n,hm.symm⟩
set_option maxRecDepth 100000 in
set_option maxHeartbeats 6400000 in
theorem ropen_any (key : Int) (hkey : Bu.U64 key) (A : Option Addr) (c : Nat) (s : List Int) {n : Nat} (hn : s.length = n) (hc : n ≤ c) (hl : n ≤ 9223372036854775807) (w : World) (h : SlU w A s) :
    Calls Tryz.prog 44 #[.int .u64 key,.slice A n c] w fun e w'=>OpnPost key s n e w'∧Ext w w':=by
 have HO:Hid (Bu.openE key s=if n<16 then 4 else if 1048592<n then 5 else if Bu.rdB (s.drop (n-8))≠Bu.chain key (s.take (n-8)) then 12 else 0):=Hi (by rw [← hn];rfl)
 rcases Nat.lt_or_ge n 16 with h16 | h16
 · have HV:Hid (Bu.openE key s=4):=Hi (by rw [HO.out,if_pos h16])
   clear HO h hn hkey hc
   have hi:(n:Int)<16:=by omega
   go_enter Tryz.func44,Tryz.ntmps44
   go_wp2
   go_ret3
   exact ⟨OpnPost.bad HV.out (by decide),Ext.refl _⟩
 rcases Nat.lt_or_ge 1048592 n with h20 | h20
 · have HV:Hid (Bu.openE key s=5):=Hi (by rw [HO.out,if_neg (by omega),if_pos h20])
   clear HO h hn hkey hc
   have hi:¬ (n:Int)<16:=by omega
   have hi2:(1048592:Int)<(n:Int):=by omega
   go_enter Tryz.func44,Tryz.ntmps44
   go_wp2
   go_ret3
   exact ⟨OpnPost.bad HV.out (by decide),Ext.refl _⟩
 obtain ⟨j,hj⟩:∃ j,n-8=j:=⟨_,rfl⟩
 rw [hj] at HO
 have hji:(n:Int)-8=(j:Int):=by omega
 have hi:¬ (n:Int)<16:=by omega
 have hi2:¬ (1048592:Int)<(n:Int):=by omega
 have hnj:n-j=8:=by omega
 have hcj:¬ c=j:=by omega
 have HB1:=Hi (SlU.take1 h j)
 have HB2:=Hi (SlU.drop1 h j)
 have K1:=Hi (fun W (hW:Ext w W)=>rnumber8_any (Option.map (fun x=>x.add j) A) (c-j) (s.drop j) (by rw [List.length_drop,hn,hnj]) rfl W (HB2.out.ext hW))
 have HLT:Hid ((s.take j).length=j):=Hi (by rw [List.length_take,hn,Nat.min_eq_left (by omega)])
 have K2:=Hi (fun W (hW:Ext w W)=>rchainD_any key hkey A c (s.take j) HLT.out rfl W (HB1.out.ext hW) (by omega))
 have HB3:=Hi (SlU.take1 h 8)
 have K3:=Hi (fun W (hW:Ext w W)=>rnumber8_any A c (s.take 8) (by rw [List.length_take,hn];omega) rfl W (HB3.out.ext hW))
 have HB4:Hid (SlU w (Option.map (fun x:Addr=>({ block:=x.block,off:=x.off+8 }:Addr)) A) ((s.take j).drop 8)):=Hi (SlU.drop1 HB1.out 8)
 have HLD:Hid (((s.take j).drop 8).length=n-16):=Hi (by rw [List.length_drop,HLT.out];omega)
 have hN:Bu.U64 (Bu.rdB (s.take 8)):=Bu.rdB_range _
 have K4:=Hi (fun W (hW:Ext w W)=>mix_any key (Bu.rdB (s.take 8)) hkey hN (Option.map (fun x:Addr=>({ block:=x.block,off:=x.off+8 }:Addr)) A) (c-8) ((s.take j).drop 8) HLD.out (by omega) W (HB4.out.ext hW))
 have HP:Hid (Bu.mix key (Bu.rdB (s.take 8)) ((s.take j).drop 8)=Bu.openP key s):=Hi (by unfold Bu.openP Bu.openN;rw [hn,hj,List.take_take,Nat.min_eq_left (show 8≤j by omega)])
 have HN:Hid (Bu.rdB (s.take 8)=Bu.openN s):=Hi (by unfold Bu.openN;rw [hn,hj,List.take_take,Nat.min_eq_left (show 8≤j by omega)])
 have HPL:Hid ((Bu.openP key s).length=n-16):=Hi (by rw [← HP.out,Bu.mix_len,HLD.out])
 rw [HP.out] at K4
 clear HB1 HB2 HB3 HB4 HLD HLT hN HP h hkey
 rw [HN.out] at K3 K4
 rw [if_neg (by omega),if_neg (by omega)] at HO
 generalize Bu.rdB (s.drop j)=x at *
 generalize Bu.chain key (s.take j)=y at *
 obtain ⟨nn,hnn⟩:∃ q,Bu.openN s=q:=⟨_,rfl⟩
 rw [hnn] at K3 K4
 have HNN:=Hi hnn
 clear hnn
 have HLN:=Hi hn
 have HNJ:=Hi hj
 have hc8:¬ c=8:=by omega
 obtain ⟨m,hm⟩:∃ m,n-16=m:=⟨_,rfl⟩
 have hjm:j-8=m:=by omega
 rw [hm] at K4 HPL
 have HM:=Hi hm
 clear hm
 have hj8:(8:Int)≤(j:Int):=by omega
 have hjc:(j:Int)≤(c:Int):=by omega
 have hjn:(j:Int)≤(n:Int):=by omega
 clear hn HN hj
 go_enter Tryz.func44,Tryz.ntmps44
 go_wp2_with fail
 go_quiet ((first | (go_at_call 72;exact quiet_eq (K2.out _ ((Ext.refl w).drewN _))) | (go_at_call 80;exact quiet_eq (K1.out _ ((Ext.refl w).drewN _)))))
 rcases Classical.em (x=y) with hxy | hxy
 · have HV:Hid (Bu.openE key s=0):=Hi (by rw [HO.out,if_neg (by rw [hxy];simp)])
   have t1:(y != x)=false:=by rw [hxy];simp
   clear HO hxy
   go_wp2_with fail
   with_reducible refine (K3.out _ ((Ext.refl w).drewN _)).mono ?_
   rintro e _ ⟨rfl,rfl⟩
   go_wp2_with fail
   with_reducible refine (K4.out _ ((Ext.refl w).drewN _)).mono ?_
   rintro e w1 ⟨⟨A9,c9,rfl,hs,hcap⟩,he⟩
   have HCAP:Hid (m≤c9):=Hi (by omega)
   clear hcap
   have HS:=Hi hs
   have HE:=Hi (((Ext.refl w).drewN _).trans he)
   clear he hs K4 K3 K2 K1
   go_wp2
   go_ret3
   refine ⟨⟨fun h=>absurd HV.out h,fun _=>⟨A9,c9,by rw [HM.out,HNN.out];rfl,HS.out,by rw [HM.out];exact HCAP.out⟩⟩,HE.out⟩
 · have HV:Hid (Bu.openE key s=12):=Hi (by rw [HO.out,if_pos hxy])
   have t1:(y != x)=true:=by rw [bne_iff_ne];exact fun e=>hxy e.symm
   clear HO hxy
   go_wp2
   go_ret3
   exact ⟨OpnPost.bad HV.out (by decide),(Ext.refl w).drewN _⟩
end Go.Proofs.YtnlenappjjlbjaaGreatDoor
