/- Parts of a slice; sealing and opening bytes in the package: contracts. Conditions: those of each theorem. -/
import Derived.Test.YtnlenappjjlbjaaGreatDoorQ21
import Derived.Lib.ConvBytes
namespace Go.Proofs.YtnlenappjjlbjaaGreatDoor
open Go.ChangeShapes Go.WideShapes Go.ChangeAt Go.RowKit Go.Shelf
def moved (A:Option Addr) (c i k:Nat):Option Addr:=if c=i then A else A.map (·.add (i*k))
theorem sl_drop {w:World} {k c:Nat} {A:Option Addr} {xs:List (List Value)} (h:Sl w k A xs) (hc:xs.length≤c) (i:Nat):Sl w k (moved A c i k) (xs.drop i):=by
 rcases Nat.lt_or_ge i xs.length with hi | hi
 · unfold moved
   rw [if_neg (by omega)]
   rcases h with h | ⟨b,off,hA,hb,hcs⟩
   · subst h;exact absurd hi (Nat.not_lt_zero _)
   · subst hA
     refine Or.inr ⟨b,off+i*k,by simp [Addr.add],hb,fun j cs hj r v hv=>?_⟩
     rw [List.getElem?_drop] at hj
     have:=hcs (i+j) cs hj r v hv
     rw [Nat.add_mul] at this
     rw [show off+(i*k+j*k+r)=off+i*k+(j*k+r) by omega] at this
     exact this
 · exact Or.inl (List.drop_of_length_le hi)
theorem sl_take {w:World} {k c:Nat} {A:Option Addr} {xs:List (List Value)} (h:Sl w k A xs) (i:Nat):Sl w k (moved A c 0 k) (xs.take i):=by
 rcases h with h | ⟨b,off,hA,hb,hcs⟩
 · subst h;exact Or.inl List.take_nil
 · subst hA
   refine Or.inr ⟨b,off,?_,hb,fun j cs hj r v hv=>?_⟩
   · unfold moved
     split
     · rfl
     · simp [Addr.add]
   · rw [List.getElem?_take] at hj
     split at hj
     · exact hcs j cs hj r v hv
     · cases hj
theorem run_slice_low {P : Program} (w : World) (t e : TypeId) (k : Nat) (A : Option Addr) (n c i : Nat) (hu : P.underlying t = some (.slice e)) (hk : (P.info? e).map (·.size) = some k) (hi : i ≤ n) :
    (Instr.slice t (.slice A n c) (some (.int .i64 (i:Int))) none none).run P w=.ok (.slice (moved A c i k) (n-i) (c-i)) w:=by
 obtain ⟨ie,hie,hs⟩:=Option.map_eq_some_iff.1 hk
 unfold moved
 have h1:(0:Int)≤(i:Int)∧(i:Int)≤(n:Int):=by omega
 simp [Instr.slice,Instr.sliceBounds,Instr.sliceBound,asIntOf,run_underlying hu,sizeOf,typeInfo,hie,hs,h1,hi]
theorem Tryz.infoU8s:(Tryz.prog.info? 5).map (·.size)=some 1:=by kernel_rfl
theorem RowU.nil (base:Nat) (w:World):RowU base [] w (.slice none 0 0):=own_nil w base _ 1
theorem SlU.nil (w:World) (A:Option Addr):SlU w A []:=Or.inl rfl
theorem SlU.drop {w:World} {A:Option Addr} {xs:List Int} {n c:Nat} (hn:xs.length=n) (h:SlU w A xs) (hc:n≤c) (i:Nat):SlU w (moved A c i 1) (xs.drop i):=by
 have:=sl_drop (c:=c) h (by rw [List.length_map,hn];exact hc) i
 rw [← List.map_drop] at this
 exact this
theorem SlU.take {w:World} {A:Option Addr} {xs:List Int} (c:Nat) (h:SlU w A xs) (i:Nat):SlU w (moved A c 0 1) (xs.take i):=by
 have:=sl_take (c:=c) h i
 rw [← List.map_take] at this
 exact this
theorem SlU.mid {w:World} {A:Option Addr} {xs:List Int} {n c:Nat} (hn:xs.length=n) (h:SlU w A xs) (hc:n≤c) (i j:Nat):SlU w (moved A c i 1) ((xs.take j).drop i):=by
 by_cases hci:c=i
 · have:(xs.take j).drop i=[]:=List.drop_eq_nil_of_le (by rw [List.length_take];omega)
   rw [this]
   exact SlU.nil _ _
 · have h1:=SlU.take (c:=0) h j
   have h2:=SlU.drop (c:=c) rfl h1 (by rw [List.length_take];omega) i
   have e:moved (moved A 0 0 1) c i 1=moved A c i 1:=by unfold moved;rw [if_pos rfl]
   rw [e] at h2
   exact h2
namespace Bu
theorem mix_next {s:Int} {ps:List Int} {k:Nat} {p:Int} (hp:ps[k]?=some p):(mixA s 0 ps).take (k+1)=(mixA s 0 ps).take k ++ [xr p (ksA s k)]:=by
 have:=mixA_at s ps 0 k p hp
 rw [Nat.zero_add] at this
 rw [List.take_add_one,this]
 rfl
theorem sts_range (s:Int):∀ k,0<k→U64 (sts s k)
 | 0,h=>absurd h (by omega)
 | k+1,_=>stp_range _
theorem ks_spell {s:Int} {k:Nat} {z:Int} (hz:z=sts s (k / 4+1) / 4294967296):z / 2 ^ (24-8*(k % 4)) % 256=ksA s k:=by
 unfold ksA
 rw [hz]
end Bu
set_option maxRecDepth 100000 in
set_option maxHeartbeats 6400000 in
theorem appendMixed_any (W0 : World) (base : Nat) (hB : W0.heap.size ≤ base) (v : Value) (xs : List Int) (key nonce : Int) (hkey : Bu.U64 key) (hnonce : Bu.U64 nonce) (A : Option Addr) (c : Nat) (ps : List Int) {n : Nat} (hn : ps.length = n) (hps : SlU W0 A ps) (w : World) (hX : Ext W0 w) (hb : base ≤ w.heap.size) (hl : xs.length + n ≤ 2000000) (h : RowU base xs w v) :
    Calls Tryz.prog 59 #[v,.int .u64 key,.int .u64 nonce,.slice A n c] w fun e w'=>∃ v',e=.returned v'∧RowU base (xs ++ Bu.mix key nonce ps) w' v'∧Ext W0 w':=by
 obtain ⟨i0,hi0,hz0,hz1,hz2⟩:=info_parts Tryz.infoU8
 have K1:=Hi (appendWord_any w w.heap.size (Nat.le_refl _) (.slice none 0 0) [] nonce hnonce w (Ext.refl _) (Nat.le_refl _) (by simp) (RowU.nil _ _))
 have K2:=Hi (fun A c w (hs:SlU w A (Bu.beB 8 nonce))=>chainD_any key hkey A c (Bu.beB 8 nonce) (n:=8) (Bu.beB_len 8 nonce) rfl w hs (by omega))
 obtain ⟨s,hs⟩:∃ s,Bu.sd key nonce=s:=⟨_,rfl⟩
 have K3:=Hi (fun w=>newD_any (Bu.chain key (Bu.beB 8 nonce)) (v:=s) hs w)
 have HM:Hid (Bu.mix key nonce ps=Bu.mixA s 0 ps):=Hi (by unfold Bu.mix;rw [hs])
 rw [HM.out]
 generalize Bu.chain key (Bu.beB 8 nonce)=ch at *
 have H:=Hi h
 have HX:=Hi hX
 have HPS:=Hi hps
 have HN:=Hi hn
 have HML:Hid ((Bu.mixA s 0 ps).length=n):=Hi (by rw [Bu.mixA_len,hn])
 obtain ⟨nx,hnx⟩:∃ n,xs.length=n:=⟨_,rfl⟩
 rw [hnx] at hl
 have HNX:=Hi hnx
 have HB8:=Hi (Bu.beB_len 8 nonce)
 clear h hX hnx hs HM hps hn hkey hnonce
 go_enter Tryz.func59,Tryz.ntmps59
 go_wp2_with fail
 with_reducible refine K1.out.mono ?_
 rintro e w1 ⟨v1,rfl,hr1,he1⟩
 obtain ⟨A1,c1,rfl,hs1⟩:=hr1.sl
 rw [List.nil_append] at hs1 ⊢
 rw [HB8.out]
 have HS1:=Hi hs1
 have HW1:=Hi (HX.out.trans he1)
 have H1:Hid (RowU base xs w1 v):=Hi (own_ext H.out he1)
 have hb1:base≤w1.heap.size:=Nat.le_trans hb he1.size
 clear hr1 hs1 he1 hb K1
 go_wp2_with fail
 with_reducible refine (K2.out A1 c1 w1 HS1.out).mono ?_
 rintro e _ ⟨rfl,rfl⟩
 clear K2 HS1
 go_wp2_with fail
 with_reducible refine (K3.out w1).mono ?_
 rintro e _ ⟨rfl,rfl⟩
 clear K3
 go_wp2
 go_loopw [0,9,10,20] (fun b d z i wr=>∃ (k:Nat) (zz:Int),k≤n∧i=.int .i64 (k:Int)∧d=.int .u64 (Bu.sts s ((k+3) / 4))∧z=.int .u32 zz∧Hid (RowU base (xs ++ (Bu.mixA s 0 ps).take k) wr b)∧Hid (Ext W0 wr)∧base≤wr.heap.size∧0≤zz∧zz<4294967296∧(k % 4≠0→zz=Bu.sts s ((k+3) / 4) / 4294967296)) (fun _ _ _ i _=>n-(intOf i).toNat)
 case atStart=>exact ⟨0,0,by omega,rfl,rfl,rfl,Hi (by rw [List.take_zero,List.append_nil];exact H1.out),HW1,hb1,by omega,by omega,fun hh=>absurd rfl hh⟩
 case round =>
  obtain ⟨k,z,hk,rfl,rfl,rfl,HR,HW,hbr,hz0',hz1',hzz⟩:=hrel
  obtain ⟨Av,cv,rfl⟩:=own_form HR.out
  have HRL:Hid ((xs ++ (Bu.mixA s 0 ps).take k).length=nx+k):=Hi (by rw [List.length_append,HNX.out,List.length_take,HML.out,Nat.min_eq_left hk])
  by_cases hlt:k<n
  · have hlt':k<ps.length:=by rw [HN.out];exact hlt
    have HNE:=Hi (Bu.mix_next (s:=s) (List.getElem?_eq_getElem hlt'))
    obtain ⟨pb,po,rfl,hpb,px⟩:=(HPS.out.ext HW.out).at_ hlt'
    generalize ps[k]=p at *
    obtain ⟨ys,hys⟩:∃ q,xs ++ (Bu.mixA s 0 ps).take k=q:=⟨_,rfl⟩
    have HYS:=Hi hys
    rw [hys] at HRL HR ⊢
    have HO:Hid (wr.ownsRow base 5 1 (.slice Av ys.length cv) ys.length (ys.map (Value.int .u8))):=HR
    rw [HRL.out] at HO ⊢
    have ki0:(0:Int)≤(k:Int):=by omega
    have ki1:(k:Int)<(n:Int):=by omega
    have hn2:nx+k≤2000000:=by omega
    clear hys HR hlt'
    by_cases h4:k % 4=0
    · have t4 : ((k : Int) % 4 == 0) = true := by have : (k : Int) % 4 = 0 := by omega
                                                  rw [this];rfl
      obtain ⟨d,hd⟩:∃ d,Bu.sts s (k / 4+1)=d:=⟨_,rfl⟩
      have HD:=Hi hd
      have hd0:0≤d:=by rw [← hd];exact (Bu.sts_range s _ (by omega)).1
      have hd1:d<18446744073709551616:=by rw [← hd];exact (Bu.sts_range s _ (by omega)).2
      have K4:=Hi (nextD_any (Bu.sts s ((k+3) / 4)) (v:=d) (by rw [← hd,show (k+3) / 4=k / 4 by omega];rfl) wr)
      generalize Bu.sts s ((k+3) / 4)=d0 at *
      clear hzz hz0' hz1' hd h4
      go_wp2_with fail
      with_reducible refine K4.out.mono ?_
      rintro e _ ⟨rfl,rfl⟩
      obtain ⟨z2,hz2⟩:∃ z2,d / 4294967296=z2:=⟨_,rfl⟩
      have hz0':0≤z2:=by omega
      have hz1':z2<4294967296:=by omega
      have HZ:Hid (z2=Bu.sts s (k / 4+1) / 4294967296):=Hi (by rw [HD.out,hz2])
      have HDD:Hid (Value.int IntKind.u64 d=Value.int IntKind.u64 (Bu.sts s ((k+1+3) / 4))):=Hi (by rw [← HD.out,show (k+1+3) / 4=k / 4+1 by omega])
      rw [hz2]
      clear hz2 K4
      have hq0:0≤24-8*((k:Int) % 4):=by omega
      have hq1:24-8*((k:Int) % 4)≤24:=by omega
      have HKS:=Hi (Bu.ks_spell (s:=s) (k:=k) HZ.out)
      have HXR:Hid (bits BinOp.xor IntKind.u8 p (z2 / 2 ^ (24-8*(k % 4)) % 256)=Bu.xr p (Bu.ksA s k)):=Hi (by rw [HKS.out];rfl)
      go_wp2_with (at_builtin;refine wpList_append_lies _ rfl _ _ 24 rfl base 5 i0 (.int .u8 0) 1 1 Tryz.underlying24 hi0 hz0 hz1 hz2 rfl (by decide) _ _ _ rfl (HO.out.alloc _) ⟨wr.heap.size,0,none⟩ 1 1 [.int .u8 (bits BinOp.xor IntKind.u8 p (z2 / 2 ^ (24-8*(k % 4)) % 256))] rfl rfl (cell_one_new _ _ _) (by simp [Value.oneCell']) (by decide) (by unfold maxLen;omega) (by omega) (by simp;omega) (wr.heap.size+1) (by simp) ?_;intro gg cap w9 hown2 hgrow2 hat hlt2)
      have HO2:Hid (RowU base (xs ++ (Bu.mixA s 0 ps).take (k+1)) w9 (.slice (some ⟨gg,0,none⟩) (nx+k+1) cap)):=Hi (by
       unfold RowU
       rw [HNE.out,← List.append_assoc,HYS.out,List.length_append,HRL.out,List.map_append,← HXR.out]
       exact hown2)
      have HW2:=Hi ((HW.out.alloc (.cells #[.int .u8 (bits BinOp.xor IntKind.u8 p (z2 / 2 ^ (24-8*(k % 4)) % 256))] 5)).grown hgrow2 (fun q hq=>Nat.le_trans hB (own_ge HO.out q hq)))
      have hb2:base≤w9.heap.size:=by have:=hgrow2.size;simp at this;omega
      clear hown2 hgrow2 hat HKS HXR
      go_wp2
      go_roundw
      case rel=>exact ⟨k+1,z2,by omega,by go_num,HDD.out,rfl,HO2,HW2,hb2,by omega,by omega,fun hk4=>by rw [HZ.out,show (k+1+3) / 4=k / 4+1 by omega]⟩
      case measure=>simp [intOf];omega
    · have t4:((k:Int) % 4 == 0)=false:=by
        rw [beq_eq_false_iff_ne];omega
      have HZ:Hid (z=Bu.sts s (k / 4+1) / 4294967296):=Hi (by rw [hzz h4,show (k+3) / 4=k / 4+1 by omega])
      have HDD:Hid (Value.int IntKind.u64 (Bu.sts s ((k+3) / 4))=Value.int IntKind.u64 (Bu.sts s ((k+1+3) / 4))):=Hi (by rw [show (k+1+3) / 4=(k+3) / 4 by omega])
      clear hzz
      generalize Bu.sts s ((k+3) / 4)=d0 at *
      have hq0:0≤24-8*((k:Int) % 4):=by omega
      have hq1:24-8*((k:Int) % 4)≤24:=by omega
      have HKS:=Hi (Bu.ks_spell (s:=s) (k:=k) HZ.out)
      have HXR:Hid (bits BinOp.xor IntKind.u8 p (z / 2 ^ (24-8*(k % 4)) % 256)=Bu.xr p (Bu.ksA s k)):=Hi (by rw [HKS.out];rfl)
      go_wp2_with (at_builtin;refine wpList_append_lies _ rfl _ _ 24 rfl base 5 i0 (.int .u8 0) 1 1 Tryz.underlying24 hi0 hz0 hz1 hz2 rfl (by decide) _ _ _ rfl (HO.out.alloc _) ⟨wr.heap.size,0,none⟩ 1 1 [.int .u8 (bits BinOp.xor IntKind.u8 p (z / 2 ^ (24-8*(k % 4)) % 256))] rfl rfl (cell_one_new _ _ _) (by simp [Value.oneCell']) (by decide) (by unfold maxLen;omega) (by omega) (by simp;omega) (wr.heap.size+1) (by simp) ?_;intro gg cap w9 hown2 hgrow2 hat hlt2)
      have HO2:Hid (RowU base (xs ++ (Bu.mixA s 0 ps).take (k+1)) w9 (.slice (some ⟨gg,0,none⟩) (nx+k+1) cap)):=Hi (by
       unfold RowU
       rw [HNE.out,← List.append_assoc,HYS.out,List.length_append,HRL.out,List.map_append,← HXR.out]
       exact hown2)
      have HW2:=Hi ((HW.out.alloc (.cells #[.int .u8 (bits BinOp.xor IntKind.u8 p (z / 2 ^ (24-8*(k % 4)) % 256))] 5)).grown hgrow2 (fun q hq=>Nat.le_trans hB (own_ge HO.out q hq)))
      have hb2:base≤w9.heap.size:=by have:=hgrow2.size;simp at this;omega
      clear hown2 hgrow2 hat HKS HXR
      go_wp2
      go_roundw
      case rel=>exact ⟨k+1,z,by omega,by go_num,HDD.out,rfl,HO2,HW2,hb2,by omega,by omega,fun hk4=>by rw [HZ.out,show (k+1+3) / 4=k / 4+1 by omega]⟩
      case measure=>simp [intOf];omega
  · obtain rfl:k=n:=by omega
    have hf:(Bu.mixA s 0 ps).take k=Bu.mixA s 0 ps:=List.take_of_length_le (by rw [HML.out];omega)
    rw [hf] at HR ⊢
    clear HRL hf hzz
    generalize (xs ++ Bu.mixA s 0 ps).length=q at *
    go_wp2
    go_ret
    exact ⟨_,rfl,HR.out,HW.out⟩
theorem SlU.take1 {w:World} {A:Option Addr} {xs:List Int} (h:SlU w A xs) (i:Nat):SlU w A (xs.take i):=by
 have:=SlU.take (c:=0) h i
 unfold moved at this
 rw [if_pos rfl] at this
 exact this
theorem SlU.drop1 {w:World} {A:Option Addr} {xs:List Int} (h:SlU w A xs) (i:Nat):SlU w (Option.map (fun x=>x.add i) A) (xs.drop i):=by
 have:=SlU.drop (c:=xs.length+i+1) rfl h (by omega) i
 unfold moved at this
 rw [if_neg (by omega),Nat.mul_one] at this
 exact this
theorem ext_bytesWorld (w:World) (e:TypeId) (s:ByteArray):Ext w (Lib.bytesWorld w e s):=⟨rfl,rfl,rfl,by rw [Lib.bytesWorld_size];omega,fun q hq=>Lib.bytesWorld_at_old w e s q hq⟩
theorem sl_bytesWorld (w:World) (s:ByteArray):SlU (Lib.bytesWorld w 5 s) (some ⟨w.heap.size,0,none⟩) (byB s):=by
 refine Or.inr ⟨w.heap.size,0,rfl,by rw [Lib.bytesWorld_size];omega,fun i cs hi j v hv=>?_⟩
 rw [List.getElem?_map] at hi
 cases hx:(byB s)[i]? with
 | none=>rw [hx] at hi;cases hi
 | some x =>
  rw [hx] at hi
  cases hi
  match j,hv with
  | 0,hv =>
   cases hv
   have hlt:=(List.getElem?_eq_some_iff.1 hx).1
   rw [byB_length] at hlt
   rw [show 0+(i*1+0)=i by omega,Lib.bytesWorld_cell w _ s i hlt]
   unfold byB at hx
   rw [List.getElem?_map] at hx
   have hlt':i<s.data.toList.length:=by rw [Array.length_toList];exact hlt
   rw [List.getElem?_eq_getElem hlt'] at hx
   have:=Option.some.inj hx
   rw [List.getD_eq_getElem?_getD,List.getElem?_eq_getElem hlt',Option.getD_some]
   rw [← this]
set_option maxRecDepth 100000 in
set_option maxHeartbeats 6400000 in
theorem derive_any (key:Int) (hk:Bu.U64 key) (s:ByteArray) {v:Int} (hv:dgA (dgA (dgOf []) (Bu.beB 8 key)) (byB s)=v) (hl:s.size≤9223372036854775807) (w:World):Calls Tryz.prog 27 #[.int .u64 key,.string s] w fun e w'=>e=.returned (.int .u64 v)∧Ext w w':=by
 have K1:Hid (Calls Tryz.prog 48 #[.slice none 0 0] w fun e w'=>e=.returned (.int .u64 (dgOf []))∧w=w'):=Hi (of_dg none 0 [] w (SlU.nil _ _) (by simp))
 have K2:=Hi (numberD_any (dgOf []) key hk w)
 have K3:=Hi (fun c=>add_dg (dgA (dgOf []) (Bu.beB 8 key)) (some ⟨w.heap.size,0,none⟩) c (byB s) (Lib.bytesWorld w 5 s) (sl_bytesWorld w s) (by rw [byB_length];exact hl))
 rw [hv,byB_length] at K3
 have hconv:=Lib.run_convert_string_bytes (P:=Tryz.prog) w 9 24 5 s Tryz.underlying9 Tryz.underlying24 Tryz.underlying5
 have XW:=Hi (ext_bytesWorld w 5 s)
 generalize Lib.bytesWorld w 5 s=W at *
 generalize dgA (dgOf []) (Bu.beB 8 key)=q at *
 generalize dgOf []=q0 at *
 generalize grownCap w s.size 0 5=gc at *
 clear hv hk
 go_enter Tryz.func27,Tryz.ntmps27
 go_wp2_with fail
 with_reducible refine K1.out.mono ?_
 rintro e _ ⟨rfl,rfl⟩
 go_wp2_with fail
 with_reducible refine K2.out.mono ?_
 rintro e _ ⟨rfl,rfl⟩
 go_wp2_with fail
 with_reducible refine (K3.out gc).mono ?_
 rintro e _ ⟨rfl,rfl⟩
 go_wp2
 go_ret
 exact ⟨rfl,XW.out⟩
set_option maxRecDepth 100000 in
set_option maxHeartbeats 6400000 in
theorem rderive_any (key:Int) (hk:Bu.U64 key) (s:ByteArray) {v:Int} (hv:dgA (dgA (dgOf []) (Bu.beB 8 key)) (byB s)=v) (hl:s.size≤9223372036854775807) (w:World):Calls Tryz.prog 33 #[.int .u64 key,.string s] w fun e w'=>e=.returned (.int .u64 v)∧Ext w w':=by
 have K1:Hid (Calls Tryz.prog 75 #[.slice none 0 0] w fun e w'=>e=.returned (.int .u64 (dgOf []))∧w=w'):=Hi (rof_dg none 0 [] w (SlU.nil _ _) (by simp))
 have K2:=Hi (rnumberD_any (dgOf []) key hk w)
 have K3:=Hi (fun c=>radd_any (dgA (dgOf []) (Bu.beB 8 key)) (some ⟨w.heap.size,0,none⟩) c (byB s) (Lib.bytesWorld w 5 s) (sl_bytesWorld w s) (by rw [byB_length];exact hl))
 rw [hv,byB_length] at K3
 have hconv:=Lib.run_convert_string_bytes (P:=Tryz.prog) w 9 24 5 s Tryz.underlying9 Tryz.underlying24 Tryz.underlying5
 have XW:=Hi (ext_bytesWorld w 5 s)
 generalize Lib.bytesWorld w 5 s=W at *
 generalize dgA (dgOf []) (Bu.beB 8 key)=q at *
 generalize dgOf []=q0 at *
 generalize grownCap w s.size 0 5=gc at *
 clear hv hk
 go_enter Tryz.func33,Tryz.ntmps33
 go_wp2_with fail
 with_reducible refine K1.out.mono ?_
 rintro e _ ⟨rfl,rfl⟩
 go_wp2_with fail
 with_reducible refine K2.out.mono ?_
 rintro e _ ⟨rfl,rfl⟩
 go_wp2_with fail
 with_reducible refine (K3.out gc).mono ?_
 rintro e _ ⟨rfl,rfl⟩
 go_wp2
 go_ret
 exact ⟨rfl,XW.out⟩
set_option maxRecDepth 100000 in
set_option maxHeartbeats 6400000 in
theorem seal_any (key nonce : Int) (hkey : Bu.U64 key) (hnonce : Bu.U64 nonce) (A : Option Addr) (c : Nat) (ps : List Int) {n : Nat} (hn : ps.length = n) (hl : n ≤ 1048576) {S : List Int} (hS : Bu.sealB key nonce ps = S) (w : World) (h : SlU w A ps) :
    Calls Tryz.prog 26 #[.int .u64 key,.int .u64 nonce,.slice A n c] w fun e w'=>(∃ A' c',e=.returned (.tuple #[.slice A' S.length c',.int .i64 0])∧SlU w' A' S)∧Ext w w':=by
 obtain ⟨W,hmk,hrow,hext⟩:=make_u8 (n+16) (by omega) w
 have K1:=Hi (appendWord_any w w.heap.size (Nat.le_refl _) (.slice (some ⟨w.heap.size,0,none⟩) 0 (n+16)) [] nonce hnonce W hext hext.size (by simp) hrow)
 have K2:=Hi (fun v w1 hx hr=>appendMixed_any w w.heap.size (Nat.le_refl _) v (Bu.beB 8 nonce) key nonce hkey hnonce A c ps hn h w1 hx hx.size (by rw [Bu.beB_len];omega) hr)
 have K3:=Hi (fun A c w1 hs=>chainD_any key hkey A c (Bu.bodyB key nonce ps) (n:=8+n) (by rw [Bu.body_len,hn]) rfl w1 hs (by omega))
 have K4:=Hi (fun v w1 hx hr=>appendWord_any w w.heap.size (Nat.le_refl _) v (Bu.bodyB key nonce ps) (Bu.chain key (Bu.bodyB key nonce ps)) (Bu.chain_range _ _) w1 hx hx.size (by rw [Bu.body_len];omega) hr)
 have HS:Hid (Bu.bodyB key nonce ps ++ Bu.beB 8 (Bu.chain key (Bu.bodyB key nonce ps))=S):=Hi hS
 have HB:Hid (Bu.beB 8 nonce ++ Bu.mix key nonce ps=Bu.bodyB key nonce ps):=Hi rfl
 have HL:Hid ((Bu.bodyB key nonce ps).length=8+n):=Hi (by rw [Bu.body_len,hn])
 rw [HB.out] at K2
 rw [HS.out] at K4
 rw [List.nil_append] at K1
 have hmk2:(Instr.makeSlice 24 (.int .i64 0) (.int .i64 ((n:Int)+16))).run Tryz.prog w=.ok (.slice (some ⟨w.heap.size,0,none⟩) 0 (n+16)) W:=by rw [← hmk];congr 1
 generalize Bu.bodyB key nonce ps=body at *
 generalize Bu.chain key body=ch at *
 generalize Bu.beB 8 nonce=b8 at *
 clear hmk hrow hext hn hS h hkey hnonce HS HB
 go_enter Tryz.func26,Tryz.ntmps26
 go_wp2_with fail
 with_reducible refine K1.out.mono ?_
 rintro e w1 ⟨v1,rfl,hr1,he1⟩
 have HR1:=Hi hr1
 have HE1:=Hi he1
 clear hr1 he1 K1
 go_wp2_with fail
 with_reducible refine (K2.out v1 w1 HE1.out HR1.out).mono ?_
 rintro e w2 ⟨v2,rfl,hr2,he2⟩
 obtain ⟨A2,c2,rfl,hs2⟩:=RowU.sl hr2
 rw [HL.out] at hr2 ⊢
 have HR2:=Hi hr2
 have HE2:=Hi he2
 have HS2:=Hi hs2
 clear hr2 he2 hs2 K2
 go_wp2_with fail
 with_reducible refine (K3.out A2 c2 w2 HS2.out).mono ?_
 rintro e _ ⟨rfl,rfl⟩
 go_wp2_with fail
 with_reducible refine (K4.out _ w2 HE2.out HR2.out).mono ?_
 rintro e w3 ⟨v3,rfl,hr3,he3⟩
 obtain ⟨A3,c3,rfl,hs3⟩:=RowU.sl hr3
 have HE3:=Hi he3
 have HS3:=Hi hs3
 obtain ⟨z,hz⟩:∃ z,S.length=z:=⟨_,rfl⟩
 rw [hz]
 have HZ:=Hi hz
 clear hr3 he3 hs3 K4 K3 hz
 go_wp2
 go_ret2
 exact ⟨⟨A3,c3,by rw [HZ.out];rfl,HS3.out⟩,HE3.out⟩
theorem own_cap0 {w:World} {base n m c:Nat} {e:TypeId} {A:Option Addr} {xs:List Value} (h:w.ownsRow base e 1 (.slice A n c) m xs):n≤c:=by
 rcases h.2 with ⟨h1,-⟩ | ⟨g,cap,cur,h1,-,-,h2,-⟩
 · cases h1;exact Nat.le_refl _
 · cases h1;exact h2
def OpnPost (key:Int) (s:List Int) (n:Nat) (e:Ending) (w':World):Prop :=
 (Bu.openE key s≠0→e=.returned (.tuple #[.slice none 0 0,.int .u64 0,.int .i64 (Bu.openE key s)]))∧(Bu.openE key s=0→∃ A c,e=.returned (.tuple #[.slice A (n-16) c,.int .u64 (Bu.openN s),.int .i64 0])∧SlU w' A (Bu.openP key s)∧n-16≤c)
theorem OpnPost.bad {key:Int} {s:List Int} {n:Nat} {v:Int} (hv:Bu.openE key s=v) (h0:v≠0) {w':World}:OpnPost key s n (.returned (.tuple #[.slice none 0 0,.int .u64 0,.int .i64 v])) w' :=
 ⟨fun _=>by rw [hv],fun h=>absurd (hv.symm.trans h) h0⟩
set_option maxRecDepth 100000 in
set_option maxHeartbeats 6400000 in
theorem copen_any (key : Int) (hkey : Bu.U64 key) (A : Option Addr) (c : Nat) (s : List Int) {n : Nat} (hn : s.length = n) (hc : n ≤ c) (hB : Bu.Byt s) (hl : n ≤ 9223372036854775807) (w : World) (h : SlU w A s) :
    Calls Tryz.prog 42 #[.int .u64 key,.slice A n c] w fun e w'=>OpnPost key s n e w'∧Ext w w':=by
 have HO:Hid (Bu.openE key s=if n<16 then 4 else if 1048592<n then 5 else if Bu.rdB (s.drop (n-8))≠Bu.chain key (s.take (n-8)) then 12 else 0):=Hi (by rw [← hn];rfl)
 rcases Nat.lt_or_ge n 16 with h16 | h16
 · have HV:Hid (Bu.openE key s=4):=Hi (by rw [HO.out,if_pos h16])
   clear HO h hn hB hkey hc
   have hi:(n:Int)<16:=by omega
   go_enter Tryz.func42,Tryz.ntmps42
   go_wp2
   go_ret3
   exact ⟨OpnPost.bad HV.out (by decide),Ext.refl _⟩
 rcases Nat.lt_or_ge 1048592 n with h20 | h20
 · have HV:Hid (Bu.openE key s=5):=Hi (by rw [HO.out,if_neg (by omega),if_pos h20])
   clear HO h hn hB hkey hc
   have hi:¬ (n:Int)<16:=by omega
   have hi2:(1048592:Int)<(n:Int):=by omega
   go_enter Tryz.func42,Tryz.ntmps42
   go_wp2
   go_ret3
   exact ⟨OpnPost.bad HV.out (by decide),Ext.refl _⟩
 obtain ⟨j,hj⟩:∃ j,n-8=j:=⟨_,rfl⟩
 rw [hj] at HO
 have hji:(n:Int)-8=(j:Int):=by omega
 have hi:¬ (n:Int)<16:=by omega
 have hi2:¬ (1048592:Int)<(n:Int):=by omega
 have hnj:n-j=8:=by omega
 have hcj:¬ c=j:=by omega
 have HB1:=Hi (SlU.take1 h j)
 have HB2:=Hi (SlU.drop1 h j)
 have K1:=Hi (fun W (hW:Ext w W)=>bword_any (Option.map (fun x=>x.add j) A) (c-j) (s.drop j) (n:=8) (by rw [List.length_drop,hn,hnj]) (hB.drop j) rfl W (HB2.out.ext hW) (by omega))
 have HLT:Hid ((s.take j).length=j):=Hi (by rw [List.length_take,hn,Nat.min_eq_left (by omega)])
 have K2:=Hi (fun W (hW:Ext w W)=>chainD_any key hkey A c (s.take j) HLT.out rfl W (HB1.out.ext hW) (by omega))
 have HB3:=Hi (SlU.take1 HB1.out 8)
 have K3:=Hi (fun W (hW:Ext w W)=>bword_any A c ((s.take j).take 8) (n:=8) (by rw [List.length_take,HLT.out];omega) ((hB.take j).take 8) rfl W (HB3.out.ext hW) (by omega))
 have HB4:Hid (SlU w (Option.map (fun x:Addr=>({ block:=x.block,off:=x.off+8 }:Addr)) A) ((s.take j).drop 8)):=Hi (SlU.drop1 HB1.out 8)
 have HLD:Hid (((s.take j).drop 8).length=n-16):=Hi (by rw [List.length_drop,HLT.out];omega)
 have hN:Bu.U64 (Bu.rdB ((s.take j).take 8)):=Bu.rdB_range _
 have K4:=Hi (fun W (hW:Ext w W)=>appendMixed_any W W.heap.size (Nat.le_refl _) (.slice none 0 0) [] key (Bu.rdB ((s.take j).take 8)) hkey hN (Option.map (fun x:Addr=>({ block:=x.block,off:=x.off+8 }:Addr)) A) (c-8) ((s.take j).drop 8) HLD.out (HB4.out.ext hW) W (Ext.refl _) (Nat.le_refl _) (by simp;omega) (RowU.nil _ _))
 have HP:Hid (Bu.mix key (Bu.rdB ((s.take j).take 8)) ((s.take j).drop 8)=Bu.openP key s):=Hi (by unfold Bu.openP Bu.openN;rw [hn,hj])
 have HN:Hid (Bu.rdB ((s.take j).take 8)=Bu.openN s):=Hi (by unfold Bu.openN;rw [hn,hj])
 have HPL:Hid ((Bu.openP key s).length=n-16):=Hi (by rw [← HP.out,Bu.mix_len,HLD.out])
 rw [HP.out] at K4
 clear HB1 HB2 HB3 HB4 HLD HLT hN HP h hB hkey
 rw [HN.out] at K3 K4
 rw [if_neg (by omega),if_neg (by omega)] at HO
 generalize Bu.rdB (s.drop j)=x at *
 generalize Bu.chain key (s.take j)=y at *
 obtain ⟨nn,hnn⟩:∃ q,Bu.openN s=q:=⟨_,rfl⟩
 rw [hnn] at K3 K4
 have HNN:=Hi hnn
 clear hnn
 have HLN:=Hi hn
 have HNJ:=Hi hj
 have hc8:¬ c=8:=by omega
 obtain ⟨m,hm⟩:∃ m,n-16=m:=⟨_,rfl⟩
 have hjm:j-8=m:=by omega
 rw [hm] at K4 HPL
 have HM:=Hi hm
 clear hm
 have hj8:(8:Int)≤(j:Int):=by omega
 have hjc:(j:Int)≤(c:Int):=by omega
 have hjn:(j:Int)≤(n:Int):=by omega
 clear hn HN hj
 go_enter Tryz.func42,Tryz.ntmps42
 go_wp2_with fail
 go_quiet (fail)
 go_wp2_with fail
 with_reducible refine (K1.out _ ((Ext.refl w).drewN _)).mono ?_
 rintro e _ ⟨rfl,rfl⟩
 go_wp2_with fail
 with_reducible refine (K2.out _ ((Ext.refl w).drewN _)).mono ?_
 rintro e _ ⟨rfl,rfl⟩
 rcases Classical.em (x=y) with hxy | hxy
 · have HV:Hid (Bu.openE key s=0):=Hi (by rw [HO.out,if_neg (by rw [hxy];simp)])
   have t1:(x != y)=false:=by rw [hxy];simp
   clear HO hxy
   go_wp2_with fail
   with_reducible refine (K3.out _ ((Ext.refl w).drewN _)).mono ?_
   rintro e _ ⟨rfl,rfl⟩
   go_wp2_with fail
   with_reducible refine (K4.out _ ((Ext.refl w).drewN _)).mono ?_
   rintro e w1 ⟨v1,rfl,hr,he⟩
   rw [List.nil_append] at hr
   obtain ⟨A9,c9,rfl,hs⟩:=RowU.sl hr
   have hcap:=own_cap0 hr
   rw [HPL.out] at hcap
   have HCAP:=Hi hcap
   clear hcap
   rw [HPL.out]
   have HS:=Hi hs
   have HE:=Hi (((Ext.refl w).drewN _).trans he)
   clear hr he hs K4 K3 K2 K1
   go_wp2
   go_ret3
   refine ⟨⟨fun h=>absurd HV.out h,fun _=>⟨A9,c9,by rw [HM.out,HNN.out];rfl,HS.out,by rw [HM.out];exact HCAP.out⟩⟩,HE.out⟩
 · have HV:Hid (Bu.openE key s=12):=Hi (by rw [HO.out,if_pos hxy])
   have t1:(x != y)=true:=by rw [bne_iff_ne];exact hxy
   clear HO hxy
   go_wp2
   go_ret3
   exact ⟨OpnPost.bad HV.out (by decide),(Ext.refl w).drewN _⟩
end Go.Proofs.YtnlenappjjlbjaaGreatDoor
