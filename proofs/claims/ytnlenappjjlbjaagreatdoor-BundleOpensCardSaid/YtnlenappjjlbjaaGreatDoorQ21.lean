/- Numbers out of bytes, digests of numbers and of links, draws: contracts. Conditions: those of each theorem. -/
import Derived.Test.YtnlenappjjlbjaaGreatDoorQ19
import Derived.Laws.Bits64b
import Derived.Lib.Zigzag
namespace Go.Proofs.YtnlenappjjlbjaaGreatDoor
open Go.RowKit Go.Shelf
namespace Bu
theorem or_rd {v c:Int} (hc:0≤c∧c<256):bits BinOp.or IntKind.u64 (IntKind.u64.wrap (v*256)) (IntKind.u64.wrap c)=rdS v c:=by
 unfold rdS
 rw [IntKind.wrap_u64,IntKind.wrap_u64]
 obtain ⟨d,rfl⟩:=Int.eq_ofNat_of_zero_le hc.1
 have hd:=hc.2
 obtain ⟨m,hm⟩:=Int.eq_ofNat_of_zero_le (show 0≤v*256 % 18446744073709551616 from Int.emod_nonneg _ (by decide))
 have h1:(d:Int) % 18446744073709551616=(d:Int):=by omega
 have h2:m<18446744073709551616:=by omega
 have h3:m % 256=0:=by omega
 rw [hm,h1,bits_or_u64_nat m d h2 (by omega)]
 have h4:m ||| d=m+d:=by
  have:=Nat.two_pow_add_eq_or_of_lt (i:=8) (b:=d) (by omega) (m / 256)
  have e:2 ^ 8*(m / 256)=m:=by omega
  rw [e] at this
  exact this.symm
 rw [h4]
 omega
theorem add_rd {v c:Int}:IntKind.u64.wrap (IntKind.u64.wrap (v*256)+IntKind.u64.wrap c)=rdS v c:=by
 unfold rdS
 rw [IntKind.wrap_u64,IntKind.wrap_u64,IntKind.wrap_u64]
 omega
theorem rdB_next {xs:List Int} {k:Nat} {c:Int} (hc:xs[k]?=some c):rdB (xs.take (k+1))=rdS (rdB (xs.take k)) c:=by
 unfold rdB;rw [List.take_add_one,hc,List.foldl_append];rfl
theorem beB_at:∀ (m:Nat) (x:Int) (k:Nat),k<m→(beB m x)[k]?=some (x / 256 ^ (m-1-k) % 256)
 | 0,_,_,h=>absurd h (by omega)
 | m+1,x,0,_=>by rw [beB,List.getElem?_cons_zero];rfl
 | m+1,x,k+1,h=>by
  rw [beB,List.getElem?_cons_succ,beB_at m x k (by omega),show m+1-1-(k+1)=m-1-k by omega]
theorem pow_sh {k:Nat} (h:k≤7):(2:Int) ^ (56-8*(k:Int)).toNat=256 ^ (8-1-k):=by
 match k,h with
 | 0,_=>decide
 | 1,_=>decide
 | 2,_=>decide
 | 3,_=>decide
 | 4,_=>decide
 | 5,_=>decide
 | 6,_=>decide
 | 7,_=>decide
 | k+8,h=>exact absurd h (by omega)
theorem and255 {x:Int} (h0:0≤x) (h:x<18446744073709551616):bits BinOp.and IntKind.u64 x 255=x % 256:=by
 have:=bits_mask .u64 64 (by decide) wraps_u64 8 (by decide) x h0 (by omega)
 simpa using this
end Bu
set_option maxRecDepth 100000 in
set_option maxHeartbeats 3200000 in
theorem bget_any (A:Option Addr) (c:Nat) (xs:List Int) {n:Nat} (hn:xs.length=n) (hB:Bu.Byt xs) {v:Int} (hv:Bu.rdB xs=v) (w:World) (hs:SlU w A xs) (hl:n≤9223372036854775807):Calls Tryz.prog 40 #[.slice A n c] w fun e w'=>e=.returned (.int .u64 v)∧w=w':=by
 have H:=Hi hs
 have HN:=Hi hn
 have HV:=Hi hv
 clear hs hn hv
 go_enter Tryz.func40,Tryz.ntmps40
 go_wp2
 go_loop [3,8] (fun m i=>∃ k:Nat,k≤n∧i=.int .i64 k∧m=.int .u64 (Bu.rdB (xs.take k))) (fun _ i=>n-(intOf i).toNat)
 case atStart=>exact ⟨0,by omega,rfl,rfl⟩
 case round =>
  obtain ⟨k,hk,rfl,rfl⟩:=hrel
  by_cases hlt:k<n
  · have hlt':k<xs.length:=by rw [HN.out];exact hlt
    obtain ⟨gb,go,rfl,hgb,x0⟩:=H.out.at_ hlt'
    have HX:=Hi (Bu.rdB_next (List.getElem?_eq_getElem hlt'))
    have HY:=Hi (hB _ (List.getElem_mem hlt'))
    generalize xs[k]=y at *
    generalize Bu.rdB (xs.take k)=z at *
    have ki0:(0:Int)≤(k:Int):=by omega
    have ki1:(k:Int)<(n:Int):=by omega
    clear hlt'
    go_wp2
    go_round
    case rel=>exact ⟨k+1,by omega,by go_num,by rw [HX.out,← Bu.or_rd HY.out]⟩
    case measure=>simp [intOf];omega
  · obtain rfl:k=n:=by omega
    have hf:xs.take k=xs:=by rw [← HN.out,List.take_length]
    rw [hf,HV.out]
    clear hf
    go_wp2
    go_ret
    exact ⟨rfl,rfl⟩
set_option maxRecDepth 100000 in
set_option maxHeartbeats 3200000 in
theorem bword_any (A:Option Addr) (c:Nat) (xs:List Int) {n:Nat} (hn:xs.length=n) (hB:Bu.Byt xs) {v:Int} (hv:Bu.rdB xs=v) (w:World) (hs:SlU w A xs) (hl:n≤9223372036854775807):Calls Tryz.prog 77 #[.slice A n c] w fun e w'=>e=.returned (.int .u64 v)∧w=w':=by
 have H:=Hi hs
 have HN:=Hi hn
 have HV:=Hi hv
 clear hs hn hv
 go_enter Tryz.func77,Tryz.ntmps77
 go_wp2
 go_loop [3,8] (fun m i=>∃ k:Nat,k≤n∧i=.int .i64 k∧m=.int .u64 (Bu.rdB (xs.take k))) (fun _ i=>n-(intOf i).toNat)
 case atStart=>exact ⟨0,by omega,rfl,rfl⟩
 case round =>
  obtain ⟨k,hk,rfl,rfl⟩:=hrel
  by_cases hlt:k<n
  · have hlt':k<xs.length:=by rw [HN.out];exact hlt
    obtain ⟨gb,go,rfl,hgb,x0⟩:=H.out.at_ hlt'
    have HX:=Hi (Bu.rdB_next (List.getElem?_eq_getElem hlt'))
    have HY:=Hi (hB _ (List.getElem_mem hlt'))
    generalize xs[k]=y at *
    generalize Bu.rdB (xs.take k)=z at *
    have ki0:(0:Int)≤(k:Int):=by omega
    have ki1:(k:Int)<(n:Int):=by omega
    clear hlt'
    go_wp2
    go_round
    case rel=>exact ⟨k+1,by omega,by go_num,by rw [HX.out,← Bu.or_rd HY.out]⟩
    case measure=>simp [intOf];omega
  · obtain rfl:k=n:=by omega
    have hf:xs.take k=xs:=by rw [← HN.out,List.take_length]
    rw [hf,HV.out]
    clear hf
    go_wp2
    go_ret
    exact ⟨rfl,rfl⟩
set_option maxRecDepth 100000 in
set_option maxHeartbeats 3200000 in
theorem rbnum_any (A:Option Addr) (c:Nat) (xs:List Int) {n:Nat} (hn:xs.length=n) {v:Int} (hv:Bu.rdB xs=v) (w:World) (hs:SlU w A xs) (hl:n≤9223372036854775807):Calls Tryz.prog 41 #[.slice A n c] w fun e w'=>e=.returned (.int .u64 v)∧w=w':=by
 have H:=Hi hs
 have HN:=Hi hn
 have HV:=Hi hv
 clear hs hn hv
 go_enter Tryz.func41,Tryz.ntmps41
 go_wp2
 go_loop [3,4] (fun m i=>∃ k:Nat,k≤n∧i=.int .i64 k∧m=.int .u64 (Bu.rdB (xs.take k))) (fun _ i=>n-(intOf i).toNat)
 case atStart=>exact ⟨0,by omega,rfl,rfl⟩
 case round =>
  obtain ⟨k,hk,rfl,rfl⟩:=hrel
  by_cases hlt:k<n
  · have hlt':k<xs.length:=by rw [HN.out];exact hlt
    obtain ⟨gb,go,rfl,hgb,x0⟩:=H.out.at_ hlt'
    have HX:=Hi (Bu.rdB_next (List.getElem?_eq_getElem hlt'))
    generalize xs[k]=y at *
    generalize Bu.rdB (xs.take k)=z at *
    have ki0:(0:Int)≤(k:Int):=by omega
    have ki1:(k:Int)<(n:Int):=by omega
    clear hlt'
    go_wp2
    go_round
    case rel=>exact ⟨k+1,by omega,by go_num,by rw [HX.out,← Bu.add_rd]⟩
    case measure=>simp [intOf];omega
  · obtain rfl:k=n:=by omega
    have hf:xs.take k=xs:=by rw [← HN.out,List.take_length]
    rw [hf,HV.out]
    clear hf
    go_wp2
    go_ret
    exact ⟨rfl,rfl⟩
set_option maxRecDepth 100000 in
set_option maxHeartbeats 3200000 in
theorem rnumber8_any (A:Option Addr) (c:Nat) (xs:List Int) (hn:xs.length=8) {v:Int} (hv:Bu.rdB xs=v) (w:World) (hs:SlU w A xs):Calls Tryz.prog 80 #[.slice A 8 c] w fun e w'=>e=.returned (.int .u64 v)∧w=w':=by
 have H:=Hi hs
 have HN:=Hi hn
 have HV:=Hi hv
 clear hs hn hv
 go_enter Tryz.func80,Tryz.ntmps80
 go_wp2
 go_loop [3,4] (fun m i=>∃ k:Nat,k≤8∧i=.int .i64 k∧m=.int .u64 (Bu.rdB (xs.take k))) (fun _ i=>8-(intOf i).toNat)
 case atStart=>exact ⟨0,by omega,rfl,rfl⟩
 case round =>
  obtain ⟨k,hk,rfl,rfl⟩:=hrel
  by_cases hlt:k<8
  · have hlt':k<xs.length:=by rw [HN.out];exact hlt
    obtain ⟨gb,go,rfl,hgb,x0⟩:=H.out.at_ hlt'
    have HX:=Hi (Bu.rdB_next (List.getElem?_eq_getElem hlt'))
    generalize xs[k]=y at *
    generalize Bu.rdB (xs.take k)=z at *
    have ki0:(0:Int)≤(k:Int):=by omega
    have ki1:(k:Int)<8:=by omega
    clear hlt'
    go_wp2
    go_round
    case rel=>exact ⟨k+1,by omega,by go_num,by rw [HX.out,← Bu.add_rd]⟩
    case measure=>simp [intOf];omega
  · obtain rfl:k=8:=by omega
    have hf:xs.take 8=xs:=by rw [← HN.out,List.take_length]
    rw [hf,HV.out]
    clear hf
    go_wp2
    go_ret
    exact ⟨rfl,rfl⟩
set_option maxRecDepth 100000 in
set_option maxHeartbeats 3200000 in
theorem numberD_any (h x:Int) (hx:Bu.U64 x) (w:World):Calls Tryz.prog 49 #[.int .u64 h,.int .u64 x] w fun e w'=>e=.returned (.int .u64 (dgA h (Bu.beB 8 x)))∧w=w':=by
 have H0:=hx.1
 have H1:=hx.2
 clear hx
 go_enter Tryz.func49,Tryz.ntmps49
 go_wp2
 go_loop [0,5] (fun m i=>∃ k:Nat,k≤8∧i=.int .i64 (56-8*(k:Int))∧m=.int .u64 (dgA h ((Bu.beB 8 x).take k))) (fun _ i=>(intOf i+8).toNat)
 case atStart=>exact ⟨0,by omega,rfl,rfl⟩
 case round =>
  obtain ⟨k,hk,rfl,rfl⟩:=hrel
  by_cases hlt:k<8
  · have HX:=Hi (dgA_next (h:=h) (Bu.beB_at 8 x k hlt))
    have HP:=Hi (Bu.pow_sh (k:=k) (by omega))
    have HS:Hid (∃ s:Int,56-8*(k:Int)=s):=Hi ⟨_,rfl⟩
    obtain ⟨s,hs⟩:=HS.out
    have hs0:0≤s:=by omega
    have hs1:s≤56:=by omega
    rw [hs] at HP ⊢
    have hp:=Bu.pow_pos (8-1-k)
    rw [← HP.out] at hp HX
    have hq0:0≤x / 2 ^ s.toNat:=Int.ediv_nonneg H0 (by omega)
    have hq1:x / 2 ^ s.toNat<18446744073709551616:=Int.lt_of_le_of_lt (Int.ediv_le_self _ H0) H1
    have HA:=Hi (Bu.and255 hq0 hq1)
    have HW:Hid (IntKind.u64.wrap (x / 2 ^ s.toNat % 256)=x / 2 ^ s.toNat % 256):=Hi (by rw [IntKind.wrap_u64];omega)
    have HK:=Hi hs
    clear hs HS HP hp
    unfold dgS at HX
    generalize dgA h ((Bu.beB 8 x).take k)=z at *
    go_wp2
    go_round
    case rel=>exact ⟨k+1,by omega,by have:=HK.out;first | go_num | (congr 1;omega),by rw [HX.out,HW.out,HA.out]⟩
    case measure=>simp [intOf];omega
  · obtain rfl:k=8:=by omega
    have hf:(Bu.beB 8 x).take 8=Bu.beB 8 x:=List.take_of_length_le (by rw [Bu.beB_len];omega)
    rw [hf]
    clear hf
    go_wp2
    go_ret
    exact ⟨rfl,rfl⟩
namespace Bu
theorem pow_s8 {k n:Nat} (h:k<n) (hn:n≤8) {s:Int} (hs:(n:Int)-1-(k:Int)=s):(2:Int) ^ (8*s).toNat=256 ^ (n-1-k):=by
 obtain ⟨d,rfl⟩:∃ d,n=k+1+d:=⟨n-(k+1),by omega⟩
 obtain rfl:s=(d:Int):=by omega
 rw [show k+1+d-1-k=d by omega]
 have hd:d≤7:=by omega
 clear hs
 match d,hd with
 | 0,_=>decide
 | 1,_=>decide
 | 2,_=>decide
 | 3,_=>decide
 | 4,_=>decide
 | 5,_=>decide
 | 6,_=>decide
 | 7,_=>decide
 | d+8,h=>exact absurd h (by omega)
theorem beB_take {n:Nat} {x:Int} {k:Nat} {y:Int} (h:(beB n x)[k]?=some y):(beB n x).take (k+1)=(beB n x).take k ++ [y]:=by rw [List.take_add_one,h];rfl
end Bu
set_option maxRecDepth 100000 in
set_option maxHeartbeats 3200000 in
theorem rnumberD_any (h x:Int) (hx:Bu.U64 x) (w:World):Calls Tryz.prog 74 #[.int .u64 h,.int .u64 x] w fun e w'=>e=.returned (.int .u64 (dgA h (Bu.beB 8 x)))∧w=w':=by
 have H0:=hx.1
 have H1:=hx.2
 clear hx
 go_enter Tryz.func74,Tryz.ntmps74
 go_wp2
 go_loop [0,5] (fun m i=>∃ k:Nat,k≤8∧i=.int .i64 (7-(k:Int))∧m=.int .u64 (dgA h ((Bu.beB 8 x).take k))) (fun _ i=>(intOf i+1).toNat)
 case atStart=>exact ⟨0,by omega,rfl,rfl⟩
 case round =>
  obtain ⟨k,hk,rfl,rfl⟩:=hrel
  by_cases hlt:k<8
  · have HX:=Hi (dgA_next (h:=h) (Bu.beB_at 8 x k hlt))
    obtain ⟨s,hs⟩:∃ s:Int,7-(k:Int)=s:=⟨_,rfl⟩
    have HP:=Hi (Bu.pow_s8 (k:=k) (n:=8) hlt (by omega) (s:=s) (by omega))
    have hs0:0≤s:=by omega
    have hs1:s≤7:=by omega
    rw [hs]
    have hp:=Bu.pow_pos (8-1-k)
    rw [← HP.out] at hp HX
    have hq0:0≤x / 2 ^ (8*s).toNat:=Int.ediv_nonneg H0 (by omega)
    have hq1:x / 2 ^ (8*s).toNat<18446744073709551616:=Int.lt_of_le_of_lt (Int.ediv_le_self _ H0) H1
    have HK:=Hi hs
    clear hs HP hp
    generalize dgA h ((Bu.beB 8 x).take k)=z at *
    go_wp2_with fail
    with_reducible refine (extend_any _ _ _).mono ?_
    rintro e w1 ⟨rfl,rfl⟩
    go_wp2
    go_round
    case rel=>exact ⟨k+1,by omega,by have:=HK.out;first | go_num | (congr 1;omega),by rw [HX.out]⟩
    case measure=>simp [intOf];omega
  · obtain rfl:k=8:=by omega
    have hf:(Bu.beB 8 x).take 8=Bu.beB 8 x:=List.take_of_length_le (by rw [Bu.beB_len];omega)
    rw [hf]
    clear hf
    go_wp2
    go_ret
    exact ⟨rfl,rfl⟩
set_option maxRecDepth 100000 in
theorem chainD_any (p:Int) (hp:Bu.U64 p) (A:Option Addr) (c:Nat) (xs:List Int) {n:Nat} (hn:xs.length=n) {v:Int} (hv:Bu.chain p xs=v) (w:World) (hs:SlU w A xs) (hl:n≤9223372036854775807):Calls Tryz.prog 60 #[.int .u64 p,.slice A n c] w fun e w'=>e=.returned (.int .u64 v)∧w=w':=by
 subst hn hv
 have K1:=Hi (numberD_any 14695981039346656037 p hp w)
 have K2:=Hi (add_dg (dgA 14695981039346656037 (Bu.beB 8 p)) A c xs w hs hl)
 have HE:Hid (Bu.chain p xs=dgA (dgA 14695981039346656037 (Bu.beB 8 p)) xs):=Hi rfl
 rw [HE.out]
 clear hs HE
 generalize dgA 14695981039346656037 (Bu.beB 8 p)=q at *
 generalize dgA q xs=z at *
 generalize xs.length=n at *
 go_enter Tryz.func60,Tryz.ntmps60
 go_wp2_with fail
 with_reducible refine K1.out.mono ?_
 rintro e w1 ⟨rfl,rfl⟩
 go_wp2_with fail
 with_reducible refine K2.out.mono ?_
 rintro e w1 ⟨rfl,rfl⟩
 go_wp2
 go_ret
 exact ⟨rfl,rfl⟩
set_option maxRecDepth 100000 in
theorem rchainD_any (p:Int) (hp:Bu.U64 p) (A:Option Addr) (c:Nat) (xs:List Int) {n:Nat} (hn:xs.length=n) {v:Int} (hv:Bu.chain p xs=v) (w:World) (hs:SlU w A xs) (hl:n≤9223372036854775807):Calls Tryz.prog 72 #[.int .u64 p,.slice A n c] w fun e w'=>e=.returned (.int .u64 v)∧w=w':=by
 subst hn hv
 have K1:=Hi (rnumberD_any 14695981039346656037 p hp w)
 have K2:=Hi (radd_any (dgA 14695981039346656037 (Bu.beB 8 p)) A c xs w hs hl)
 have HE:Hid (Bu.chain p xs=dgA (dgA 14695981039346656037 (Bu.beB 8 p)) xs):=Hi rfl
 rw [HE.out]
 clear hs HE
 generalize dgA 14695981039346656037 (Bu.beB 8 p)=q at *
 generalize dgA q xs=z at *
 generalize xs.length=n at *
 go_enter Tryz.func72,Tryz.ntmps72
 go_wp2_with fail
 with_reducible refine K1.out.mono ?_
 rintro e w1 ⟨rfl,rfl⟩
 go_wp2_with fail
 with_reducible refine K2.out.mono ?_
 rintro e w1 ⟨rfl,rfl⟩
 go_wp2
 go_ret
 exact ⟨rfl,rfl⟩
theorem Bu.stp_wrap (s:Int):IntKind.u64.wrap (IntKind.u64.wrap (s*6364136223846793005)+1442695040888963407)=Bu.stp s:=by
 unfold Bu.stp
 rw [IntKind.wrap_u64,IntKind.wrap_u64]
 omega
theorem Bu.stp_range (s:Int):Bu.U64 (Bu.stp s):=⟨Int.emod_nonneg _ (by decide),Int.emod_lt_of_pos _ (by decide)⟩
set_option maxRecDepth 100000 in
set_option maxHeartbeats 3200000 in
theorem newD_any (s:Int) {v:Int} (hv:Bu.stp s=v) (w:World):Calls Tryz.prog 96 #[.int .u64 s] w fun e w'=>e=.returned (.int .u64 v)∧w=w':=by
 have HV:=Hi hv
 clear hv
 go_enter Tryz.func96,Tryz.ntmps96
 go_wp2
 go_ret
 exact ⟨by rw [← HV.out,← Bu.stp_wrap];rfl,rfl⟩
set_option maxRecDepth 100000 in
set_option maxHeartbeats 3200000 in
theorem rstep_any (s:Int) {v:Int} (hv:Bu.stp s=v) (w:World):Calls Tryz.prog 147 #[.int .u64 s] w fun e w'=>e=.returned (.int .u64 v)∧w=w':=by
 have HV:=Hi hv
 clear hv
 go_enter Tryz.func147,Tryz.ntmps147
 go_wp2
 go_ret
 exact ⟨by rw [← HV.out,← Bu.stp_wrap];rfl,rfl⟩
set_option maxRecDepth 100000 in
set_option maxHeartbeats 3200000 in
theorem rnewD_any (s:Int) {v:Int} (hv:Bu.stp s=v) (w:World):Calls Tryz.prog 129 #[.int .u64 s] w fun e w'=>e=.returned (.int .u64 v)∧w=w':=by
 have K:=Hi (rstep_any s hv w)
 clear hv
 go_enter Tryz.func129,Tryz.ntmps129
 go_wp2_with fail
 with_reducible refine K.out.mono ?_
 rintro e w1 ⟨rfl,rfl⟩
 go_wp2
 go_ret
 exact ⟨rfl,rfl⟩
set_option maxRecDepth 100000 in
set_option maxHeartbeats 3200000 in
theorem nextD_any (s:Int) {v:Int} (hv:Bu.stp s=v) (w:World):Calls Tryz.prog 97 #[.int .u64 s] w fun e w'=>e=.returned (.tuple #[.int .u32 (v / 4294967296),.int .u64 v])∧w=w':=by
 have K:=Hi (newD_any s hv w)
 have h0:0≤v:=by rw [← hv];exact (Bu.stp_range s).1
 have h1:v<18446744073709551616:=by rw [← hv];exact (Bu.stp_range s).2
 clear hv
 go_enter Tryz.func97,Tryz.ntmps97
 go_wp2_with fail
 with_reducible refine K.out.mono ?_
 rintro e w1 ⟨rfl,rfl⟩
 go_wp2
 go_ret2
 exact ⟨rfl,rfl⟩
set_option maxRecDepth 100000 in
set_option maxHeartbeats 3200000 in
theorem rnextD_any (s:Int) {v:Int} (hv:Bu.stp s=v) (w:World):Calls Tryz.prog 130 #[.int .u64 s] w fun e w'=>e=.returned (.tuple #[.int .u32 (v / 4294967296),.int .u64 v])∧w=w':=by
 have K:=Hi (rstep_any s hv w)
 have h0:0≤v:=by rw [← hv];exact (Bu.stp_range s).1
 have h1:v<18446744073709551616:=by rw [← hv];exact (Bu.stp_range s).2
 clear hv
 go_enter Tryz.func130,Tryz.ntmps130
 go_wp2_with fail
 with_reducible refine K.out.mono ?_
 rintro e w1 ⟨rfl,rfl⟩
 go_wp2
 go_ret2
 exact ⟨rfl,rfl⟩
set_option maxRecDepth 100000 in
set_option maxHeartbeats 3200000 in
theorem appendWord_any (W0 : World) (base : Nat) (hB : W0.heap.size ≤ base) (v : Value) (xs : List Int) (x : Int) (hx : Bu.U64 x) (w : World) (hX : Ext W0 w) (hb : base ≤ w.heap.size) (hn : xs.length ≤ 2000000) (h : RowU base xs w v) :
    Calls Tryz.prog 58 #[v,.int .u64 x] w fun e w'=>∃ v',e=.returned v'∧RowU base (xs ++ Bu.beB 8 x) w' v'∧Ext W0 w':=by
 obtain ⟨i0,hi0,hz0,hz1,hz2⟩:=info_parts Tryz.infoU8
 have H:=Hi h
 have HX:=Hi hX
 have H0:=hx.1
 have H1:=hx.2
 obtain ⟨nx,hnx⟩:∃ n,xs.length=n:=⟨_,rfl⟩
 rw [hnx] at hn
 have HNX:=Hi hnx
 clear h hX hx hnx
 go_enter Tryz.func58,Tryz.ntmps58
 go_wp2
 go_loopw [0,5] (fun b i wr=>∃ (k:Nat),k≤8∧i=.int .i64 (56-8*(k:Int))∧Hid (RowU base (xs ++ (Bu.beB 8 x).take k) wr b)∧Hid (Ext W0 wr)∧base≤wr.heap.size) (fun _ i _=>(intOf i+8).toNat)
 case atStart=>exact ⟨0,by omega,rfl,Hi (by rw [List.take_zero,List.append_nil];exact H.out),HX,hb⟩
 case round =>
  obtain ⟨k,hk,rfl,HR,HW,hbr⟩:=hrel
  obtain ⟨A,c,rfl⟩:=own_form HR.out
  have HRL:Hid ((xs ++ (Bu.beB 8 x).take k).length=nx+k):=Hi (by rw [List.length_append,HNX.out,List.length_take,Bu.beB_len,Nat.min_eq_left hk])
  by_cases hlt:k<8
  · have HNE:=Hi (Bu.beB_take (Bu.beB_at 8 x k hlt))
    obtain ⟨ys,hys⟩:∃ q,xs ++ (Bu.beB 8 x).take k=q:=⟨_,rfl⟩
    have HYS:=Hi hys
    rw [hys] at HRL HR ⊢
    have HO:Hid (wr.ownsRow base 5 1 (.slice A ys.length c) ys.length (ys.map (Value.int .u8))):=HR
    rw [HRL.out] at HO ⊢
    obtain ⟨s,hs⟩:∃ s:Int,56-8*(k:Int)=s:=⟨_,rfl⟩
    have HP:=Hi (show (2:Int) ^ s.toNat=256 ^ (8-1-k) by rw [← hs];exact Bu.pow_sh (by omega))
    have hs0:0≤s:=by omega
    have hs1:s≤56:=by omega
    rw [hs]
    have hp:=Bu.pow_pos (8-1-k)
    rw [← HP.out] at hp HNE
    have hq0:0≤x / 2 ^ s.toNat:=Int.ediv_nonneg H0 (by omega)
    have hq1:x / 2 ^ s.toNat<18446744073709551616:=Int.lt_of_le_of_lt (Int.ediv_le_self _ H0) H1
    have HK:=Hi hs
    clear hs HP hp hys HR
    have hn2:nx+k≤2000008:=by omega
    go_wp2_with (at_builtin;refine wpList_append_lies _ rfl _ _ 24 rfl base 5 i0 (.int .u8 0) 1 1 Tryz.underlying24 hi0 hz0 hz1 hz2 rfl (by decide) _ _ _ rfl (HO.out.alloc _) ⟨wr.heap.size,0,none⟩ 1 1 [.int .u8 (x / 2 ^ s.toNat % 256)] rfl rfl (cell_one_new _ _ _) (by simp [Value.oneCell']) (by decide) (by unfold maxLen;omega) (by omega) (by simp;omega) (wr.heap.size+1) (by simp) ?_;intro gg cap w2 hown2 hgrow2 hat hlt2)
    have HO2:Hid (RowU base (xs ++ (Bu.beB 8 x).take (k+1)) w2 (.slice (some ⟨gg,0,none⟩) (nx+k+1) cap)):=Hi (by
     unfold RowU
     rw [HNE.out,← List.append_assoc,HYS.out,List.length_append,HRL.out,List.map_append]
     exact hown2)
    have HW2:=Hi ((HW.out.alloc (.cells #[.int .u8 (x / 2 ^ s.toNat % 256)] 5)).grown hgrow2 (fun q hq=>Nat.le_trans hB (own_ge HO.out q hq)))
    have hb2:base≤w2.heap.size:=by have:=hgrow2.size;simp at this;omega
    clear hown2 hgrow2 hat
    go_wp2
    go_roundw
    case rel=>exact ⟨k+1,by omega,by have:=HK.out;first | go_num | (congr 1;omega),HO2,HW2,hb2⟩
    case measure=>simp [intOf];omega
  · obtain rfl:k=8:=by omega
    have hf:(Bu.beB 8 x).take 8=Bu.beB 8 x:=List.take_of_length_le (by rw [Bu.beB_len];omega)
    rw [hf] at HR ⊢
    clear HRL hf
    generalize (xs ++ Bu.beB 8 x).length=z at *
    go_wp2
    go_ret
    exact ⟨_,rfl,HR.out,HW.out⟩
end Go.Proofs.YtnlenappjjlbjaaGreatDoor
