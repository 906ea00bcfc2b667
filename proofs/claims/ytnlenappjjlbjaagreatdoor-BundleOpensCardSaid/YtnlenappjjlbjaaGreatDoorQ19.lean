/- Numbers in bytes, digests, the keystream, sealed bytes: in plain words. No conditions. -/
import Derived.Test.YtnlenappjjlbjaaGreatDoorQ18
import Derived.Laws.Bits64
import Derived.Test.YtnlenappjjlbjaaGreatDoorQ16
import Derived.Test.YtnlenappjjlbjaaGreatDoorQ15
import Derived.Test.YtnlenappjjlbjaaGreatDoorQ14
namespace Go.Proofs.YtnlenappjjlbjaaGreatDoor
namespace Bu

def beB:Nat→Int→List Int
 | 0,_=>[]
 | n+1,x=>x / 256 ^ n % 256 :: beB n x
def rdS (n c:Int):Int:=(n*256+c) % 18446744073709551616
def rdB (xs:List Int):Int:=xs.foldl rdS 0
def Byt (xs:List Int):Prop:=∀ x∈xs,0≤x∧x<256
def val:List Int→Int
 | []=>0
 | c :: l=>c*256 ^ l.length+val l
theorem beB_len:∀ (n:Nat) (x:Int),(beB n x).length=n
 | 0,_=>rfl
 | n+1,x=>by rw [beB,List.length_cons,beB_len n x]
theorem beB_byt:∀ (n:Nat) (x:Int),Byt (beB n x)
 | 0,_,y,hy=>by cases hy
 | n+1,x,y,hy=>by
  rw [beB] at hy
  rcases List.mem_cons.1 hy with rfl | h
  · exact ⟨Int.emod_nonneg _ (by decide),Int.emod_lt_of_pos _ (by decide)⟩
  · exact beB_byt n x y h
theorem Byt.tail {x:Int} {l:List Int} (h:Byt (x :: l)):Byt l:=fun y hy=>h y (List.mem_cons_of_mem _ hy)
theorem Byt.append {a b:List Int} (ha:Byt a) (hb:Byt b):Byt (a ++ b):=fun y hy=>(List.mem_append.1 hy).elim (ha y) (hb y)
theorem Byt.take {a:List Int} (h:Byt a) (n:Nat):Byt (a.take n):=fun y hy=>h y (List.mem_of_mem_take hy)
theorem Byt.drop {a:List Int} (h:Byt a) (n:Nat):Byt (a.drop n):=fun y hy=>h y (List.mem_of_mem_drop hy)
theorem pow_pos (n:Nat):(0:Int)<256 ^ n:=Int.pow_pos (by decide)
theorem val_lt:∀ {l:List Int},Byt l→0≤val l∧val l<256 ^ l.length
 | [],_=>⟨Int.le_refl 0,by show (0:Int)<1;decide⟩
 | c :: l,h=>by
  obtain ⟨h1,h2⟩:=h c (List.mem_cons_self ..)
  obtain ⟨h3,h4⟩:=val_lt h.tail
  have hp:=pow_pos l.length
  have e:(256:Int) ^ (c :: l).length=256 ^ l.length*256:=by rw [List.length_cons,Int.pow_succ]
  have h5:c*256 ^ l.length≤255*256 ^ l.length:=Int.mul_le_mul_of_nonneg_right (by omega) (by omega)
  have h6:0≤c*256 ^ l.length:=Int.mul_nonneg h1 (by omega)
  rw [e]
  show 0≤c*256 ^ l.length+val l∧c*256 ^ l.length+val l<_
  omega
theorem rd_fold:∀ (l:List Int) (a:Int),l.foldl rdS (a % 18446744073709551616)=(a*256 ^ l.length+val l) % 18446744073709551616
 | [],a=>by
  show a % 18446744073709551616=(a*1+0) % 18446744073709551616
  rw [Int.mul_one,Int.add_zero]
 | c :: l,a=>by
  rw [List.foldl_cons,show rdS (a % 18446744073709551616) c=(a*256+c) % 18446744073709551616 by unfold rdS;omega,rd_fold l,List.length_cons]
  congr 1
  show (a*256+c)*256 ^ l.length+val l=a*256 ^ (l.length+1)+(c*256 ^ l.length+val l)
  rw [Int.pow_succ,Int.add_mul,Int.mul_assoc,Int.mul_comm 256,Int.add_assoc]
theorem pow_le8 {n:Nat} (h:n≤8):(256:Int) ^ n≤18446744073709551616:=by
 match n,h with
 | 0,_=>decide
 | 1,_=>decide
 | 2,_=>decide
 | 3,_=>decide
 | 4,_=>decide
 | 5,_=>decide
 | 6,_=>decide
 | 7,_=>decide
 | 8,_=>decide
 | n+9,h=>exact absurd h (by omega)
theorem rdB_val {l:List Int} (h:Byt l) (hl:l.length≤8):rdB l=val l:=by
 have h1:=rd_fold l 0
 rw [Int.zero_emod,Int.zero_mul,Int.zero_add] at h1
 obtain ⟨h3,h4⟩:=val_lt h
 have:=pow_le8 hl
 unfold rdB
 rw [h1]
 exact Int.emod_eq_of_lt h3 (by omega)
theorem rdB_range (l:List Int):0≤rdB l∧rdB l<18446744073709551616:=by
 have h1:=rd_fold l 0
 rw [Int.zero_emod] at h1
 unfold rdB
 rw [h1]
 exact ⟨Int.emod_nonneg _ (by decide),Int.emod_lt_of_pos _ (by decide)⟩
theorem val_beB:∀ (n:Nat) {x:Int},0≤x→val (beB n x)=x % 256 ^ n
 | 0,x,_=>by
  show (0:Int)=x % 1
  omega
 | n+1,x,h=>by
  show x / 256 ^ n % 256*256 ^ (beB n x).length+val (beB n x)=_
  rw [beB_len,val_beB n h,Int.pow_succ]
  have hp:=pow_pos n
  rw [Int.emod_def x (256 ^ n*256),← Int.ediv_ediv_of_nonneg (by omega),Int.emod_def x (256 ^ n),Int.emod_def (x / 256 ^ n) 256,Int.sub_mul,Int.mul_comm (x / 256 ^ n) (256 ^ n),Int.mul_comm (256:Int) (x / 256 ^ n / 256),Int.mul_assoc,Int.mul_comm (x / 256 ^ n / 256) (256*256 ^ n),Int.mul_comm (256:Int) (256 ^ n)]
  omega
theorem rdB_beB {n:Nat} {x:Int} (hn:n≤8) (h0:0≤x) (h:x<256 ^ n):rdB (beB n x)=x:=by
 rw [rdB_val (beB_byt n x) (by rw [beB_len];exact hn),val_beB n h0,Int.emod_eq_of_lt h0 h]
def U64 (x:Int):Prop:=0≤x∧x<18446744073709551616
theorem dgS_range (h c:Int):U64 (dgS h c):=by
 unfold dgS
 rw [IntKind.wrap_u64]
 exact ⟨Int.emod_nonneg _ (by decide),Int.emod_lt_of_pos _ (by decide)⟩
theorem dgA_range {h:Int} (hh:U64 h):∀ (l:List Int),U64 (dgA h l):=by
 intro l
 unfold dgA
 induction l generalizing h with
 | nil=>exact hh
 | cons c l ih=>exact ih (dgS_range h c)
def fnv:Int:=14695981039346656037
def chain (prev:Int) (xs:List Int):Int:=dgA (dgA fnv (beB 8 prev)) xs
theorem u64_fnv:U64 fnv:=by unfold U64 fnv;decide
theorem chain_range (p:Int) (xs:List Int):U64 (chain p xs):=dgA_range (dgA_range u64_fnv _) _
def dgJ (a b:Int):Int:=dgA (dgA fnv (beB 8 a)) (beB 8 b)
def lvl:List Int→List Int
 | a :: b :: l=>dgJ a b :: lvl l
 | l=>l
theorem lvl_len:∀ l:List Int,(lvl l).length=(l.length+1) / 2
 | []=>rfl
 | [_]=>by simp [lvl]
 | a :: b :: l=>by rw [lvl,List.length_cons,lvl_len l,List.length_cons,List.length_cons];omega
def droot (l:List Int):Int:=if _h:1<l.length then droot (lvl l) else l.getD 0 (dgOf [])
termination_by l.length
decreasing_by rw [lvl_len];omega
theorem droot_big {l:List Int} (h:1<l.length):droot l=droot (lvl l):=by rw [droot,dif_pos h]
theorem droot_small {l:List Int} (h:¬ 1<l.length):droot l=l.getD 0 (dgOf []):=by rw [droot,dif_neg h]

def stp (s:Int):Int:=(s*6364136223846793005+1442695040888963407) % 18446744073709551616
def sts (s:Int):Nat→Int
 | 0=>s
 | k+1=>stp (sts s k)
def sd (key nonce:Int):Int:=stp (chain key (beB 8 nonce))
def ksA (s:Int) (i:Nat):Int:=sts s (i / 4+1) / 4294967296 / 2 ^ (24-8*(i % 4)) % 256
def xr (a b:Int):Int:=bits BinOp.xor IntKind.u8 a b
def mixA (s:Int):Nat→List Int→List Int
 | _,[]=>[]
 | i,x :: l=>xr x (ksA s i) :: mixA s (i+1) l
def mix (key nonce:Int) (xs:List Int):List Int:=mixA (sd key nonce) 0 xs
theorem ksA_byt (s:Int) (i:Nat):0≤ksA s i∧ksA s i<256:=⟨Int.emod_nonneg _ (by decide),Int.emod_lt_of_pos _ (by decide)⟩
theorem xr_nat {a b:Nat} (ha:a<256) (hb:b<256):xr (a:Int) (b:Int)=((a ^^^ b:Nat):Int):=by
 unfold xr
 show IntKind.u8.wrap ((BitVec.ofInt 8 (a:Int) ^^^ BitVec.ofInt 8 (b:Int)).toNat:Int)=_
 have h1:(BitVec.ofInt 8 (a:Int)).toNat=a:=by rw [BitVec.ofInt_natCast,BitVec.toNat_ofNat];exact Nat.mod_eq_of_lt (by omega)
 have h2:(BitVec.ofInt 8 (b:Int)).toNat=b:=by rw [BitVec.ofInt_natCast,BitVec.toNat_ofNat];exact Nat.mod_eq_of_lt (by omega)
 have h3:a ^^^ b<2 ^ 8:=Nat.xor_lt_two_pow ha hb
 rw [BitVec.toNat_xor,h1,h2,show IntKind.u8.wrap ((a ^^^ b:Nat):Int)=((a ^^^ b:Nat):Int) % 256 by simp [IntKind.wrap,IntKind.bits,IntKind.signed]]
 omega
theorem xr_byt {a b:Int} (ha:0≤a∧a<256) (hb:0≤b∧b<256):0≤xr a b∧xr a b<256:=by
 obtain ⟨a,rfl⟩:=Int.eq_ofNat_of_zero_le ha.1
 obtain ⟨b,rfl⟩:=Int.eq_ofNat_of_zero_le hb.1
 have h1:=ha.2
 have h2:=hb.2
 rw [xr_nat (by omega) (by omega)]
 have h3:a ^^^ b<2 ^ 8:=Nat.xor_lt_two_pow (by omega) (by omega)
 omega
theorem xr_back {a b:Int} (ha:0≤a∧a<256) (hb:0≤b∧b<256):xr (xr a b) b=a:=by
 obtain ⟨a,rfl⟩:=Int.eq_ofNat_of_zero_le ha.1
 obtain ⟨b,rfl⟩:=Int.eq_ofNat_of_zero_le hb.1
 have h1:=ha.2
 have h2:=hb.2
 have h3:a ^^^ b<2 ^ 8:=Nat.xor_lt_two_pow (by omega) (by omega)
 rw [xr_nat (by omega) (by omega),xr_nat h3 (by omega),Nat.xor_assoc,Nat.xor_self,Nat.xor_zero]
theorem mixA_len (s:Int):∀ (l:List Int) (i:Nat),(mixA s i l).length=l.length
 | [],_=>rfl
 | x :: l,i=>by rw [mixA,List.length_cons,mixA_len s l,List.length_cons]
theorem mix_len (k n:Int) (l:List Int):(mix k n l).length=l.length:=mixA_len _ _ _
theorem mixA_byt (s:Int):∀ (l:List Int) (i:Nat),Byt l→Byt (mixA s i l)
 | [],_,_,y,hy=>by cases hy
 | x :: l,i,h,y,hy=>by
  rw [mixA] at hy
  rcases List.mem_cons.1 hy with rfl | g
  · exact xr_byt (h x (List.mem_cons_self ..)) (ksA_byt s i)
  · exact mixA_byt s l (i+1) h.tail y g
theorem mix_byt (k n:Int) {l:List Int} (h:Byt l):Byt (mix k n l):=mixA_byt _ _ _ h
theorem mixA_back (s:Int):∀ (l:List Int) (i:Nat),Byt l→mixA s i (mixA s i l)=l
 | [],_,_=>rfl
 | x :: l,i,h=>by
  rw [mixA,mixA,mixA_back s l (i+1) h.tail,xr_back (h x (List.mem_cons_self ..)) (ksA_byt s i)]
theorem mix_back (k n:Int) {l:List Int} (h:Byt l):mix k n (mix k n l)=l:=mixA_back _ _ _ h
theorem mixA_take (s:Int):∀ (l:List Int) (i n:Nat),mixA s i (l.take n)=(mixA s i l).take n
 | [],_,n=>by simp [mixA]
 | x :: l,i,0=>rfl
 | x :: l,i,n+1=>by rw [List.take_succ_cons,mixA,mixA,List.take_succ_cons,mixA_take s l]
theorem mix_take (k n:Int) (l:List Int) (m:Nat):mix k n (l.take m)=(mix k n l).take m:=mixA_take _ _ _ _
theorem mixA_at (s:Int):∀ (l:List Int) (i j:Nat) (x:Int),l[j]?=some x→(mixA s i l)[j]?=some (xr x (ksA s (i+j)))
 | [],_,_,_,h=>by simp at h
 | y :: l,i,0,x,h=>by
  simp only [List.getElem?_cons_zero,Option.some.injEq] at h
  subst h
  rfl
 | y :: l,i,j+1,x,h=>by
  simp only [List.getElem?_cons_succ] at h
  rw [mixA,List.getElem?_cons_succ,mixA_at s l (i+1) j x h,Nat.add_assoc,Nat.add_comm 1 j]
def bodyB (key nonce:Int) (p:List Int):List Int:=beB 8 nonce ++ mix key nonce p
def sealB (key nonce:Int) (p:List Int):List Int:=bodyB key nonce p ++ beB 8 (chain key (bodyB key nonce p))
def openE (key:Int) (s:List Int):Int:=if s.length<16 then 4 else if 1048592<s.length then 5 else if rdB (s.drop (s.length-8))≠chain key (s.take (s.length-8)) then 12 else 0
def openN (s:List Int):Int:=rdB ((s.take (s.length-8)).take 8)
def openP (key:Int) (s:List Int):List Int:=mix key (openN s) ((s.take (s.length-8)).drop 8)
theorem body_len (k n:Int) (p:List Int):(bodyB k n p).length=8+p.length:=by unfold bodyB;rw [List.length_append,beB_len,mix_len]
theorem seal_len (k n:Int) (p:List Int):(sealB k n p).length=16+p.length:=by unfold sealB;rw [List.length_append,beB_len,body_len];omega
theorem body_byt (k n:Int) {p:List Int} (h:Byt p):Byt (bodyB k n p):=(beB_byt 8 n).append (mix_byt k n h)
theorem seal_byt (k n:Int) {p:List Int} (h:Byt p):Byt (sealB k n p):=(body_byt k n h).append (beB_byt 8 _)
theorem seal_body (k n:Int) (p:List Int):(sealB k n p).take ((sealB k n p).length-8)=bodyB k n p:=by
 rw [seal_len,show 16+p.length-8=(bodyB k n p).length by rw [body_len];omega]
 unfold sealB
 exact List.take_left
theorem seal_tag (k n:Int) (p:List Int):(sealB k n p).drop ((sealB k n p).length-8)=beB 8 (chain k (bodyB k n p)):=by
 rw [seal_len,show 16+p.length-8=(bodyB k n p).length by rw [body_len];omega]
 unfold sealB
 exact List.drop_left
theorem rd8 {x:Int} (h:U64 x):rdB (beB 8 x)=x:=rdB_beB (by omega) h.1 (by have:=h.2;show x<18446744073709551616;exact this)
theorem seal_nonce {k n:Int} (hn:U64 n) (p:List Int):openN (sealB k n p)=n:=by
 unfold openN
 rw [seal_body]
 unfold bodyB
 rw [List.take_append_of_le_length (by rw [beB_len];omega),List.take_of_length_le (by rw [beB_len];omega)]
 exact rd8 hn
theorem seal_ok {k n:Int} {p:List Int} (hl:p.length≤1048576):openE k (sealB k n p)=0:=by
 unfold openE
 rw [if_neg (by rw [seal_len];omega),if_neg (by rw [seal_len];omega),seal_body,seal_tag,rd8 (chain_range _ _)]
 simp
theorem seal_open {k n:Int} (hn:U64 n) {p:List Int} (hp:Byt p):openP k (sealB k n p)=p:=by
 unfold openP
 rw [seal_nonce hn,seal_body]
 unfold bodyB
 rw [List.drop_append,List.drop_eq_nil_of_le (by rw [beB_len];omega),List.nil_append,beB_len,Nat.sub_self,List.drop_zero]
 exact mix_back k n hp
end Bu
namespace Bu

def vrA (en:Int):Nat→Nat→Nat→List Int→Except Int (Nat×List Int)
 | 0,_,_,_=>.error 2
 | _+1,_,_,[]=>.error en
 | f+1,i,acc,x :: l=>if (i=9∧1<x)∨(0<i∧x=0) then .error 2 else if x<128 then .ok (acc+x.toNat % 128*128 ^ i,l) else vrA en f (i+1) (acc+x.toNat % 128*128 ^ i) l
def vr (en:Int) (l:List Int):Except Int (Nat×List Int):=vrA en 10 0 0 l
def unf (n:Nat):Int:=if n % 2=0 then ((n / 2:Nat):Int) else -((n / 2:Nat):Int)-1
def toB (l:List Int):ByteArray:=⟨(l.map fun x=>UInt8.ofNat x.toNat).toArray⟩
def dKs (p:List Int→Except Int (Nd×List Int)):Nat→List Int→Except Int (List Nd×List Int)
 | 0,l=>.ok ([],l)
 | n+1,l=>match dKs p n l with
   | .error e=>.error e
   | .ok (xs,l1)=>match p l1 with
     | .error e=>.error e
     | .ok (x,l2)=>.ok (xs ++ [x],l2)
def dLs (p:List Int→Except Int (Nd×List Int)) (t n:Nat) (l:List Int):Except Int (Nd×List Int) :=
 if 1024<n then .error 5 else match dKs p n l with
  | .error e=>.error e
  | .ok (xs,l2)=>.ok (.mk t 3 0 ⟨#[]⟩ xs,l2)
def dSt (en:Int) (t n:Nat) (l:List Int):Except Int (Nd×List Int) :=
 if 2000<n then .error 5 else if l.length<n then .error en else .ok (.mk t 2 0 (toB (l.take n)) [],l.drop n)
def dBd (en:Int) (p:List Int→Except Int (Nd×List Int)) (t:Nat) (k:Int) (l:List Int):Except Int (Nd×List Int) :=
 if k<1∨3<k then .error 2 else match vr en l with
  | .error e=>.error e
  | .ok (n,l2)=>if k=1 then .ok (.mk t 1 (unf n) ⟨#[]⟩ [],l2) else if k=2 then dSt en t n l2 else dLs p t n l2
def dTg (en:Int) (p:List Int→Except Int (Nd×List Int)) (t:Nat) (l:List Int):Except Int (Nd×List Int) :=
 if 9999999<t then .error 3 else match l with
  | []=>.error en
  | k :: l2=>dBd en p t k l2
def dNd (en:Int):Nat→List Int→Except Int (Nd×List Int)
 | 0,_=>.error 5
 | f+1,l=>match vr en l with
   | .error e=>.error e
   | .ok (t,l1)=>dTg en (dNd en f) t l1
theorem vr_var (en:Int):∀ (f i acc n:Nat) (l:List Int),i+f=10→(i=0∨0<n)→n*128 ^ i<18446744073709551616→vrA en f i acc (varB n ++ l)=.ok (acc+n*128 ^ i,l)
 | 0,i,acc,n,l,hi,hn,hb=>by
  obtain rfl:i=10:=by omega
  have:(128:Nat) ^ 10=1180591620717411303424:=by decide
  omega
 | f+1,i,acc,n,l,hi,hn,hb=>by
  have hp:0<128 ^ i:=Nat.pow_pos (by decide)
  by_cases h:n<128
  · rw [varB_small h]
    show vrA en (f+1) i acc ((n:Int) :: l)=_
    rw [vrA,if_neg,if_pos (by omega),Int.toNat_natCast,Nat.mod_eq_of_lt h]
    rintro (⟨rfl,h1⟩ | ⟨h1,h2⟩)
    · have:(128:Nat) ^ 9=9223372036854775808:=by decide
      omega
    · omega
  · rw [varB_big h]
    show vrA en (f+1) i acc (((n % 128+128:Nat):Int) :: (varB (n / 128) ++ l))=_
    have hs:128 ^ (i+1)=128 ^ i*128:=Nat.pow_succ ..
    have h7:n / 128*128 ^ (i+1)+n % 128*128 ^ i=n*128 ^ i:=by
     have e:=Nat.div_add_mod n 128
     rw [hs,← Nat.mul_assoc,Nat.mul_right_comm,← Nat.add_mul]
     congr 1
     omega
    rw [vrA,if_neg,if_neg (by omega),Int.toNat_natCast,show (n % 128+128) % 128=n % 128 by omega,vr_var en f (i+1) _ (n / 128) l (by omega) (Or.inr (by omega)) (by omega)]
    · congr 2
      omega
    · rintro (⟨rfl,h1⟩ | ⟨h1,h2⟩)
      · have:(128:Nat) ^ 9=9223372036854775808:=by decide
        have h8:128*128 ^ 9≤n*128 ^ 9:=Nat.mul_le_mul_right _ (by omega)
        omega
      · omega
theorem vr_ok (en:Int) {n:Nat} (h:n<18446744073709551616) (l:List Int):vr en (varB n ++ l)=.ok (n,l):=by
 have:=vr_var en 10 0 0 n l rfl (Or.inl rfl) (by omega)
 unfold vr
 rw [this]
 congr 2
 omega
theorem vr_lt {en:Int}:∀ (f i acc:Nat) (l:List Int) (n:Nat) (r:List Int),i+f=10→acc<128 ^ i→vrA en f i acc l=.ok (n,r)→n<18446744073709551616
 | 0,_,_,_,_,_,_,_,h=>by cases h
 | _+1,_,_,[],_,_,_,_,h=>by cases h
 | f+1,i,acc,x :: l,n,r,hi,ha,h=>by
  have hp:0<128 ^ i:=Nat.pow_pos (by decide)
  have hs:128 ^ (i+1)=128 ^ i*128:=Nat.pow_succ ..
  have hm:x.toNat % 128*128 ^ i≤127*128 ^ i:=Nat.mul_le_mul_right _ (by omega)
  rw [vrA] at h
  by_cases h1:(i=9∧1<x)∨(0<i∧x=0)
  · rw [if_pos h1] at h
    cases h
  · rw [if_neg h1] at h
    by_cases h2:x<128
    · rw [if_pos h2] at h
      cases h
      by_cases h9:i=9
      · subst h9
        have h3:x.toNat % 128≤1:=by omega
        have h4:x.toNat % 128*128 ^ 9≤1*128 ^ 9:=Nat.mul_le_mul_right _ h3
        have:(128:Nat) ^ 9=9223372036854775808:=by decide
        omega
      · have h5:128 ^ (i+1)≤128 ^ 9:=Nat.pow_le_pow_right (by decide) (by omega)
        have:(128:Nat) ^ 9=9223372036854775808:=by decide
        omega
    · rw [if_neg h2] at h
      exact vr_lt f (i+1) _ l n r (by omega) (by omega) h
theorem vr_u64 {en:Int} {l:List Int} {n:Nat} {r:List Int} (h:vr en l=.ok (n,r)):n<18446744073709551616:=vr_lt 10 0 0 l n r rfl (by decide) h
theorem unf_fold {n:Int}:unf (foldZ n).toNat=n:=by
 unfold unf foldZ
 by_cases h:0≤n
 · rw [if_pos h]
   split <;> omega
 · rw [if_neg h]
   split <;> omega
theorem unf_64 {n:Nat} (h:n<18446744073709551616):In64 (unf n):=by
 unfold unf In64
 split <;> omega
theorem toB_byB (s:ByteArray):toB (byB s)=s:=by
 unfold toB byB
 rw [List.map_map]
 obtain ⟨⟨l⟩⟩:=s
 congr 1
 show (List.map _ l).toArray=_
 congr 1
 conv=>rhs;rw [← List.map_id l]
 refine List.map_congr_left fun x _=>?_
 show UInt8.ofNat ((x.toNat:Int)).toNat=x
 rw [Int.toNat_natCast]
 exact UInt8.ofNat_toNat
theorem toB_size (l:List Int):(toB l).size=l.length:=by
 show ((l.map fun x=>UInt8.ofNat x.toNat).toArray).size=l.length
 simp
theorem byB_byt (s:ByteArray):Byt (byB s):=fun x hx=>by
 unfold byB at hx
 obtain ⟨u,-,rfl⟩:=List.mem_map.1 hx
 have:=u.toNat_lt
 omega
theorem dKs_ok {p:List Int→Except Int (Nd×List Int)} {d:Nat}:∀ (n:Nat) (ks:List Nd) (r:List Int),ks.length=n→(∀ k∈ks,∀ l,p (encT d k ++ l)=.ok (k,l))→dKs p n ((ks.map (encT d)).flatten ++ r)=.ok (ks,r)
 | 0,ks,r,hn,_=>by
  obtain rfl:=List.eq_nil_of_length_eq_zero hn
  rfl
 | n+1,ks,r,hn,h=>by
  obtain ⟨qs,k,rfl⟩:∃ qs k,ks=qs ++ [k]:=⟨ks.dropLast,ks.getLast (by intro e;rw [e] at hn;cases hn),(List.dropLast_concat_getLast _).symm⟩
  rw [List.length_append,List.length_singleton] at hn
  rw [dKs,List.map_append,List.flatten_append,List.append_assoc,dKs_ok n qs _ (by omega) (fun x hx=>h x (List.mem_append_left _ hx))]
  simp only [List.map_cons,List.map_nil,List.flatten_cons,List.flatten_nil,List.append_nil]
  rw [h k (List.mem_append_right _ (List.mem_singleton.2 rfl))]
theorem dNd_enc (en:Int):∀ (f:Nat) (x:Nd) (l:List Int),Fits f x→dNd en f (encT f x ++ l)=.ok (x,l)
 | 0,_,_,h=>h.elim
 | f+1,x,l,h=>by
  obtain ⟨tn,ht,h⟩:=fits_cases h
  rcases h with ⟨n,hn,rfl⟩ | ⟨s,hs,rfl⟩ | ⟨ks,hf,hl,hk,rfl⟩
  · rw [encT_1,List.append_assoc,dNd,vr_ok en (by omega)]
    simp only [dTg,if_neg (show ¬ 9999999<tn by omega),List.cons_append,List.nil_append,dBd,if_neg (show ¬ ((1:Int)<1∨(3:Int)<1) by decide)]
    have h0:=fold_nonneg (n:=n)
    have h1:=fold_lt hn
    rw [vr_ok en (by omega)]
    simp only [if_true,unf_fold]
  · rw [encT_2,List.append_assoc,dNd,vr_ok en (by omega)]
    simp only [dTg,if_neg (show ¬ 9999999<tn by omega),List.cons_append,List.nil_append,dBd,if_neg (show ¬ ((2:Int)<1∨(3:Int)<2) by decide)]
    rw [List.append_assoc,vr_ok en (by omega)]
    simp only [if_neg (show ¬ (2:Int)=1 by decide),if_true,dSt,if_neg (show ¬ 2000<s.size by omega)]
    have hb:=byB_length s
    rw [if_neg (by rw [List.length_append];omega),List.take_append_of_le_length (by omega),List.take_of_length_le (by omega),toB_byB,List.drop_append,List.drop_eq_nil_of_le (by omega),hb,Nat.sub_self]
    rfl
  · rw [encT_3,List.append_assoc,dNd,vr_ok en (by omega)]
    simp only [dTg,if_neg (show ¬ 9999999<tn by omega),List.cons_append,List.nil_append,dBd,if_neg (show ¬ ((3:Int)<1∨(3:Int)<3) by decide)]
    rw [List.append_assoc,vr_ok en (by omega)]
    simp only [if_neg (show ¬ (3:Int)=1 by decide),if_neg (show ¬ (3:Int)=2 by decide),dLs,if_neg (show ¬ 1024<ks.length by omega)]
    rw [dKs_ok ks.length ks l rfl (fun k hk' l'=>dNd_enc en f k l' (hk k hk'))]
def Pre {α:Type} (p:List Int→Except Int (α×List Int)) (en:Int):Prop:=∀ a b x l,p (a ++ b)=.ok (x,l)→(∃ l',l=l' ++ b∧p a=.ok (x,l'))∨p a=.error en
theorem vr_pre (en:Int):∀ (f i acc:Nat),Pre (vrA en f i acc) en
 | 0,_,_,_,_,_,_,h=>by cases h
 | f+1,i,acc,[],b,x,l,h=>Or.inr rfl
 | f+1,i,acc,y :: a,b,x,l,h=>by
  rw [List.cons_append,vrA] at h
  rw [vrA]
  by_cases h1:(i=9∧1<y)∨(0<i∧y=0)
  · rw [if_pos h1] at h
    cases h
  · rw [if_neg h1] at h
    rw [if_neg h1]
    by_cases h2:y<128
    · rw [if_pos h2] at h
      rw [if_pos h2]
      cases h
      exact Or.inl ⟨a,rfl,rfl⟩
    · rw [if_neg h2] at h
      rw [if_neg h2]
      exact vr_pre en f (i+1) _ a b x l h
theorem dKs_pre {p:List Int→Except Int (Nd×List Int)} {en:Int} (hp:Pre p en):∀ n,Pre (dKs p n) en
 | 0,a,b,x,l,h=>by cases h;exact Or.inl ⟨a,rfl,rfl⟩
 | n+1,a,b,x,l,h=>by
  rw [dKs] at h ⊢
  cases h1:dKs p n (a ++ b) with
  | error e=>rw [h1] at h;cases h
  | ok y =>
   obtain ⟨xs,l1⟩:=y
   rw [h1] at h
   simp only at h
   cases h2:p l1 with
   | error e=>rw [h2] at h;cases h
   | ok z =>
    obtain ⟨x1,l2⟩:=z
    rw [h2] at h
    cases h
    rcases dKs_pre hp n a b xs l1 h1 with ⟨l',rfl,h3⟩ | h3
    · rw [h3]
      simp only
      rcases hp l' b x1 _ h2 with ⟨l'',rfl,h4⟩ | h4
      · rw [h4]
        exact Or.inl ⟨l'',rfl,rfl⟩
      · rw [h4]
        exact Or.inr rfl
    · rw [h3]
      exact Or.inr rfl
theorem dLs_pre {p:List Int→Except Int (Nd×List Int)} {en:Int} (hp:Pre p en) (t n:Nat):Pre (dLs p t n) en:=fun a b x l h=>by
 unfold dLs at h ⊢
 split at h
 · cases h
 · rename_i h1
   rw [if_neg h1]
   cases h2:dKs p n (a ++ b) with
   | error e=>rw [h2] at h;cases h
   | ok y =>
    obtain ⟨xs,l1⟩:=y
    rw [h2] at h
    cases h
    rcases dKs_pre hp n a b xs _ h2 with ⟨l',rfl,h3⟩ | h3
    · rw [h3];exact Or.inl ⟨l',rfl,rfl⟩
    · rw [h3];exact Or.inr rfl
theorem dSt_pre (en:Int) (t n:Nat):Pre (dSt en t n) en:=fun a b x l h=>by
 unfold dSt at h ⊢
 split at h
 · cases h
 · rename_i h1
   rw [if_neg h1]
   split at h
   · cases h
   · rename_i h2
     cases h
     by_cases h3:a.length<n
     · rw [if_pos h3];exact Or.inr rfl
     · rw [if_neg h3,List.take_append_of_le_length (by omega),List.drop_append_of_le_length (by omega)]
       exact Or.inl ⟨_,rfl,rfl⟩
theorem dBd_pre {p:List Int→Except Int (Nd×List Int)} {en:Int} (hp:Pre p en) (t:Nat) (k:Int):Pre (dBd en p t k) en:=fun a b x l h=>by
 unfold dBd at h ⊢
 split at h
 · cases h
 · rename_i h1
   rw [if_neg h1]
   cases h2:vr en (a ++ b) with
   | error e=>rw [h2] at h;cases h
   | ok y =>
    obtain ⟨n,l1⟩:=y
    rw [h2] at h
    simp only at h
    rcases vr_pre en 10 0 0 a b n l1 h2 with ⟨l',rfl,h3⟩ | h3
    · change vr en a=_ at h3
      rw [h3]
      simp only
      by_cases hk:k=1
      · rw [if_pos hk] at h ⊢
        cases h
        exact Or.inl ⟨l',rfl,rfl⟩
      · rw [if_neg hk] at h ⊢
        by_cases hk2:k=2
        · rw [if_pos hk2] at h ⊢
          exact dSt_pre en t n l' b x l h
        · rw [if_neg hk2] at h ⊢
          exact dLs_pre hp t n l' b x l h
    · change vr en a=_ at h3
      rw [h3]
      exact Or.inr rfl
theorem dTg_pre {p:List Int→Except Int (Nd×List Int)} {en:Int} (hp:Pre p en) (t:Nat):Pre (dTg en p t) en:=fun a b x l h=>by
 unfold dTg at h ⊢
 split at h
 · cases h
 · rename_i h1
   rw [if_neg h1]
   cases a with
   | nil=>exact Or.inr rfl
   | cons k a=>exact dBd_pre hp t k a b x l h
theorem dNd_pre (en:Int):∀ f,Pre (dNd en f) en
 | 0,_,_,_,_,h=>by cases h
 | f+1,a,b,x,l,h=>by
  rw [dNd] at h ⊢
  cases h2:vr en (a ++ b) with
  | error e=>rw [h2] at h;cases h
  | ok y =>
   obtain ⟨n,l1⟩:=y
   rw [h2] at h
   simp only at h
   rcases vr_pre en 10 0 0 a b n l1 h2 with ⟨l',rfl,h3⟩ | h3
   · change vr en a=_ at h3
     rw [h3]
     exact dTg_pre (dNd_pre en f) n l' b x l h
   · change vr en a=_ at h3
     rw [h3]
     exact Or.inr rfl
theorem dNd_cut (en:Int) {f:Nat} {x:Nd} (h:Fits f x) {a b:List Int} (he:encT f x=a ++ b) (hb:b≠[]):dNd en f a=.error en:=by
 have h1:=dNd_enc en f x [] h
 rw [List.append_nil,he] at h1
 rcases dNd_pre en f a b x [] h1 with ⟨l',h2,-⟩ | h2
 · rcases List.append_eq_nil_iff.1 h2.symm with ⟨-,h3⟩
   exact absurd h3 hb
 · exact h2
end Bu
def Sm {α:Type} (f:α→List Int):List α→List Nat→Prop
 | [],[]=>True
 | x :: l,c :: b=>(f x).length≤c∧Sm f l b
 | _,_=>False
theorem Sm.sum {α:Type} {f:α→List Int}:∀ {l:List α} {b:List Nat},Sm f l b→((l.map f).flatten).length≤b.sum
 | [],[],_=>Nat.le_refl 0
 | x :: l,c :: b,⟨h1,h2⟩=>by
  have:=Sm.sum h2
  rw [List.map_cons,List.flatten_cons,List.length_append,List.sum_cons]
  omega
 | [],_ :: _,h=>h.elim
 | _ :: _,[],h=>h.elim
theorem enc_tree_small {it:It.Item} (ho:It.Ok it) (h:It.vld it=0):Fits 3 (tree it)∧(encT 3 (tree it)).length≤17000:=by
 obtain ⟨l1,l2,l3,l4⟩:=It.vld_small h
 obtain ⟨t1,t2,t3,t4⟩:=It.vld_texts h
 refine ⟨(fits_tree ho h).1,?_⟩
 have hi:∀ {t n:Int},0≤t→t≤9999999→In64 n→(encT 2 (.mk t 1 n ⟨#[]⟩ [])).length≤21:=fun h0 h1 hn=>(fits_I h0 h1 hn).2
 have a1:=hi (t:=1) (by omega) (by omega) ho.id
 have a2:=hi (t:=2) (by omega) (by omega) ho.ver
 have a3:=hi (t:=3) (by omega) (by omega) ho.kind
 have a4:=(fits_S (d:=1) (t:=4) (by omega) (by omega) t1).2
 have a5:=(fits_LS (t:=5) (by omega) (by omega) l1 t3).2
 have a6:=(fits_LI (t:=6) (by omega) (by omega) l2 ho.chs).2
 have a7:=hi (t:=7) (by omega) (by omega) ho.value
 have a8:=hi (t:=8) (by omega) (by omega) ho.tol
 have a9:=(fits_LS (t:=9) (by omega) (by omega) l3 t4).2
 have a10:=hi (t:=10) (by omega) (by omega) ho.pts
 have a11:=(fits_S (d:=1) (t:=11) (s:=it.cont) (by omega) (by omega) (by omega)).2
 have a12:=hi (t:=12) (by omega) (by omega) ho.fam
 have a13:=hi (t:=13) (by omega) (by omega) ho.set_
 have a14:=hi (t:=14) (by omega) (by omega) ho.wrd
 have a15:=hi (t:=15) (by omega) (by omega) ho.sec
 have a16:=(fits_LI (t:=16) (by omega) (by omega) (by omega) ho.assets).2
 have a17:=hi (t:=17) (by omega) (by omega) ho.rub
 have e:encT 3 (tree it)=varB 14 ++ ([3] ++ (varB (flds it).length ++ ((flds it).map (encT 2)).flatten)):=encT_3
 have hs:Sm (encT 2) (flds it) [21,21,21,21+2000,2300,2300,21,21,2300,21,21+24,21,21,21,21,2300,21]:=⟨a1,a2,a3,Nat.le_trans a4 (by omega),a5,a6,a7,a8,a9,a10,Nat.le_trans a11 (by omega),a12,a13,a14,a15,a16,a17,trivial⟩
 have:=hs.sum
 rw [e,varB_small (by omega),varB_small (by simp [flds])]
 generalize ((flds it).map (encT 2)).flatten=z at *
 simp only [List.length_append,List.length_cons,List.length_nil,List.sum_cons,List.sum_nil] at this ⊢
 omega
namespace Bu
def treeB (its:List It.Item):Nd:=.mk 48 3 0 ⟨#[]⟩ (its.map tree)
def plainB (its:List It.Item):List Int:=encT 4 (treeB its)
theorem fits_treeB {its:List It.Item} (ho:∀ it∈its,It.Ok it) (h:Rs.chkI its=0):Fits 4 (treeB its)∧(plainB its).length≤1048576:=by
 have hf:=Rs.chkI_few h
 have:=fits_L (d:=3) (c:=17000) (t:=48) (ks:=its.map tree) (by omega) (by omega) (by omega) (by rw [List.length_map];omega) (fun k hk=>by
  obtain ⟨it,hi,rfl⟩:=List.mem_map.1 hk
  exact enc_tree_small (ho it hi) (Rs.chkI_vld h hi))
 rw [List.length_map] at this
 refine ⟨this.1,Nat.le_trans this.2 ?_⟩
 have:its.length*17000≤60*17000:=Nat.mul_le_mul_right _ hf
 omega
theorem varB_byt:∀ n:Nat,Byt (varB n):=by
 intro n
 induction n using Nat.strongRecOn with
 | _ n ih =>
  by_cases h:n<128
  · rw [varB_small h]
    intro x hx
    rw [List.mem_singleton] at hx
    omega
  · rw [varB_big h]
    intro x hx
    rcases List.mem_cons.1 hx with rfl | g
    · omega
    · exact ih (n / 128) (by omega) x g
theorem encT_byt:∀ (d:Nat) (x:Nd),Fits d x→Byt (encT d x)
 | 0,_,h=>h.elim
 | d+1,x,h=>by
  have one:∀ k:Int,1≤k∧k≤3→Byt [k]:=fun k hk x hx=>by rw [List.mem_singleton] at hx;omega
  obtain ⟨tn,ht,h⟩:=fits_cases h
  rcases h with ⟨n,hn,rfl⟩ | ⟨s,hs,rfl⟩ | ⟨ks,hf,hl,hk,rfl⟩
  · rw [encT_1]
    exact (varB_byt _).append ((one 1 (by omega)).append (varB_byt _))
  · rw [encT_2]
    exact (varB_byt _).append ((one 2 (by omega)).append ((varB_byt _).append (byB_byt s)))
  · rw [encT_3]
    refine (varB_byt _).append ((one 3 (by omega)).append ((varB_byt _).append fun x hx=>?_))
    obtain ⟨l,hl,hx⟩:=List.mem_flatten.1 hx
    obtain ⟨k,hk',rfl⟩:=List.mem_map.1 hl
    exact encT_byt d k (hk k hk') x hx
theorem plain_byt {its:List It.Item} (h:Fits 4 (treeB its)):Byt (plainB its):=encT_byt 4 _ h
def magic:List Int:=[69,88,66,49]
def derive (key:Int):Int:=dgA (dgA (dgOf []) (beB 8 key)) [98,117,110,100,108,101]
def rootV (its:List It.Item):Int:=droot (its.map It.dg)
def buildE (session:Int) (its:List It.Item):Int:=if session<1∨9999999<session then 3 else Rs.chkI its
def headB (session:Int) (its:List It.Item):List Int:=((magic ++ beB 4 session) ++ beB 4 its.length) ++ beB 8 (rootV its)
def bundB (key nonce session:Int) (its:List It.Item):List Int:=headB session its ++ sealB (derive key) nonce (plainB its)
def buildB (key nonce session:Int) (its:List It.Item):List Int:=if buildE session its=0 then bundB key nonce session its else []
def sub (b:List Int) (i j:Nat):List Int:=(b.take j).drop i
def headE (b:List Int):Int:=if b.length<20 then 4 else if b.take 4≠magic then 2 else if rdB (sub b 4 8)<1∨9999999<rdB (sub b 4 8)∨60<rdB (sub b 8 12) then 3 else 0
def headS (b:List Int):Int:=rdB (sub b 4 8)
def headN (b:List Int):Int:=rdB (sub b 8 12)
def headR (b:List Int):Int:=rdB (sub b 12 20)
def kidE (ks:List Nd) (i:Nat):Int:=match ks[i]? with | some k=>decErr k | none=>0
def kidsI (ks:List Nd):List It.Item:=ks.map fun k=>itemOf k.kids
def treeE (cnt:Int) (x:Nd) (l:List Int):Int:=if l≠[] then 2 else if x.kind≠3∨x.tag≠48∨(x.kids.length:Int)≠cnt then 2 else Rs.fstN (kidE x.kids) x.kids.length
def restE (root:Int) (its:List It.Item):Int:=if Rs.chkI its≠0 then Rs.chkI its else if rootV its≠root then 12 else 0
def contE (cnt root:Int) (p:List Int):Int×List It.Item:=match dNd 4 8 p with
 | .error e=>(e,[])
 | .ok (x,l)=>if treeE cnt x l≠0 then (treeE cnt x l,[]) else if restE root (kidsI x.kids)≠0 then (restE root (kidsI x.kids),[]) else (0,kidsI x.kids)
def opnR (key:Int) (b:List Int):Int×List It.Item:=if headE b≠0 then (headE b,[]) else if openE (derive key) (b.drop 20)≠0 then (openE (derive key) (b.drop 20),[]) else contE (headN b) (headR b) (openP (derive key) (b.drop 20))
def chkR (b:List Int) (its:List It.Item):Int:=if headE b≠0 then headE b else if Rs.chkI its≠0 then Rs.chkI its else if (its.length:Int)≠headN b then 1 else if rootV its≠headR b then 12 else 0
theorem head_len (s:Int) (its:List It.Item):(headB s its).length=20:=by unfold headB;simp only [List.length_append,beB_len];rfl
theorem bund_len (k n s:Int) (its:List It.Item):(bundB k n s its).length=36+(plainB its).length:=by unfold bundB;rw [List.length_append,head_len,seal_len];omega
theorem dgOf_range (l:List Int):U64 (dgOf l):=dgA_range u64_fnv l
theorem dg_range (it:It.Item):U64 (It.dg it):=dgOf_range _
theorem dgJ_range (a b:Int):U64 (dgJ a b):=dgA_range (dgA_range u64_fnv _) _
theorem lvl_range:∀ {l:List Int},(∀ x∈l,U64 x)→∀ x∈lvl l,U64 x
 | [],_,x,hx=>by cases hx
 | [a],h,x,hx=>h x (by simpa [lvl] using hx)
 | a :: b :: l,h,x,hx=>by
  rw [lvl] at hx
  rcases List.mem_cons.1 hx with rfl | g
  · exact dgJ_range a b
  · exact lvl_range (fun y hy=>h y (List.mem_cons_of_mem _ (List.mem_cons_of_mem _ hy))) x g
theorem droot_range:∀ (n:Nat) {l:List Int},l.length=n→(∀ x∈l,U64 x)→U64 (droot l):=by
 intro n
 induction n using Nat.strongRecOn with
 | _ n ih =>
  intro l hn h
  by_cases hl:1<l.length
  · rw [droot_big hl]
    exact ih (lvl l).length (by rw [lvl_len];omega) rfl (lvl_range h)
  · rw [droot_small hl]
    match l,h with
    | [],_=>exact dgOf_range _
    | x :: l,h=>exact h x (List.mem_cons_self ..)
theorem rootV_range (its:List It.Item):U64 (rootV its):=droot_range _ rfl fun x hx=>by
 obtain ⟨it,-,rfl⟩:=List.mem_map.1 hx
 exact dg_range it
theorem sub_here {a b c:List Int} {i j:Nat} (ha:a.length=i) (hb:i+b.length=j):sub (a ++ b ++ c) i j=b:=by
 unfold sub
 rw [List.take_append_of_le_length (by rw [List.length_append];omega),List.take_of_length_le (by rw [List.length_append];omega),List.drop_append,List.drop_eq_nil_of_le (by omega),ha,Nat.sub_self]
 rfl
theorem bund_S (k n s:Int) (its:List It.Item):sub (bundB k n s its) 4 8=beB 4 s:=by
 unfold bundB headB
 rw [List.append_assoc,List.append_assoc]
 exact sub_here rfl (by rw [beB_len])
theorem bund_N (k n s:Int) (its:List It.Item):sub (bundB k n s its) 8 12=beB 4 its.length:=by
 unfold bundB headB
 rw [List.append_assoc]
 exact sub_here (by rw [List.length_append,beB_len];rfl) (by rw [beB_len])
theorem bund_R (k n s:Int) (its:List It.Item):sub (bundB k n s its) 12 20=beB 8 (rootV its):=by
 unfold bundB headB
 exact sub_here (by simp only [List.length_append,beB_len];rfl) (by rw [beB_len])
theorem bund_M (k n s:Int) (its:List It.Item):(bundB k n s its).take 4=magic:=by
 unfold bundB headB
 rw [List.append_assoc,List.append_assoc,List.append_assoc]
 rfl
theorem bund_X (k n s:Int) (its:List It.Item):(bundB k n s its).drop 20=sealB (derive k) n (plainB its):=by
 unfold bundB
 rw [List.drop_append,List.drop_eq_nil_of_le (by rw [head_len];omega),head_len]
 rfl
theorem buildE_parts {s:Int} {its:List It.Item} (h:buildE s its=0):1≤s∧s≤9999999∧Rs.chkI its=0:=by
 unfold buildE at h
 split at h
 · cases h
 · exact ⟨by omega,by omega,h⟩
theorem rd4 {x:Int} (h0:0≤x) (h:x<4294967296):rdB (beB 4 x)=x:=rdB_beB (by omega) h0 (show x<4294967296 from h)
section
variable {k n s:Int} {its:List It.Item} (hb:buildE s its=0)
include hb
theorem bund_headS:headS (bundB k n s its)=s:=by
 obtain ⟨h1,h2,h3⟩:=buildE_parts hb
 unfold headS
 rw [bund_S,rd4 (by omega) (by omega)]
theorem bund_headN:headN (bundB k n s its)=(its.length:Int):=by
 obtain ⟨h1,h2,h3⟩:=buildE_parts hb
 have:=Rs.chkI_few h3
 unfold headN
 rw [bund_N,rd4 (by omega) (by omega)]
omit hb in
theorem bund_headR:headR (bundB k n s its)=rootV its:=by
 unfold headR
 rw [bund_R,rd8 (rootV_range its)]
theorem bund_headE:headE (bundB k n s its)=0:=by
 obtain ⟨h1,h2,h3⟩:=buildE_parts hb
 have:=Rs.chkI_few h3
 have e1:=bund_headS (k:=k) (n:=n) hb
 have e2:=bund_headN (k:=k) (n:=n) hb
 unfold headS at e1
 unfold headN at e2
 unfold headE
 rw [if_neg (by rw [bund_len];omega),if_neg (by rw [bund_M];simp),e1,e2,if_neg (by omega)]
theorem kidE_trees:Rs.fstN (kidE (its.map tree)) (its.map tree).length=0:=by
 obtain ⟨h1,h2,h3⟩:=buildE_parts hb
 refine Rs.fstN_zero.2 fun i hi=>?_
 unfold kidE
 rw [List.getElem?_eq_getElem hi]
 simp only [List.getElem_map]
 unfold decErr
 rw [if_pos (isTr_tree _)]
 show It.vld (itemOf (flds _))=0
 rw [itemOf_flds]
 exact Rs.chkI_vld h3 (List.getElem_mem _)
omit hb in
theorem kidsI_trees:kidsI (its.map tree)=its:=by
 unfold kidsI
 rw [List.map_map]
 conv=>rhs;rw [← List.map_id its]
 exact List.map_congr_left fun it _=>itemOf_flds it
omit hb in
theorem fits_up:∀ (d:Nat) (x:Nd),Fits d x→Fits (d+1) x∧encT (d+1) x=encT d x
 | 0,_,h=>h.elim
 | d+1,x,h=>by
  obtain ⟨tn,ht,h⟩:=fits_cases h
  rcases h with ⟨n,hn,rfl⟩ | ⟨s,hs,rfl⟩ | ⟨ks,hf,hl,hk,rfl⟩
  · refine ⟨(fits_I (by omega) (by omega) hn).1,?_⟩
    rw [encT_1,encT_1]
  · refine ⟨(fits_S (by omega) (by omega) hs).1,?_⟩
    rw [encT_2,encT_2]
  · refine ⟨(fits_L (c:=(((ks.map (encT (d+1))).flatten).length)) (by omega) (by omega) (by omega) hl (fun k hk'=>⟨(fits_up d k (hk k hk')).1,?_⟩)).1,?_⟩
    · obtain ⟨a,b,rfl⟩:=List.append_of_mem hk'
      simp only [List.map_append,List.map_cons,List.flatten_append,List.flatten_cons,List.length_append]
      omega
    · rw [encT_3,encT_3,List.map_congr_left (f:=encT (d+1)) (g:=encT d) fun k hk'=>(fits_up d k (hk k hk')).2]
omit hb in
theorem fits_8 {x:Nd} (h:Fits 4 x):Fits 8 x∧encT 8 x=encT 4 x:=by
 obtain ⟨a1,b1⟩:=fits_up 4 x h
 obtain ⟨a2,b2⟩:=fits_up 5 x a1
 obtain ⟨a3,b3⟩:=fits_up 6 x a2
 obtain ⟨a4,b4⟩:=fits_up 7 x a3
 exact ⟨a4,by rw [b4,b3,b2,b1]⟩
omit hb in
theorem dec_plain (ho:∀ it∈its,It.Ok it) (h:Rs.chkI its=0):dNd 4 8 (plainB its)=.ok (treeB its,[]):=by
 obtain ⟨h1,h2⟩:=fits_8 (fits_treeB ho h).1
 have:=dNd_enc 4 8 (treeB its) [] h1
 rw [List.append_nil,h2] at this
 exact this
omit hb in
theorem dec_cut (ho:∀ it∈its,It.Ok it) (h:Rs.chkI its=0) {a b:List Int} (he:plainB its=a ++ b) (hb:b≠[]):dNd 4 8 a=.error 4:=by
 obtain ⟨h1,h2⟩:=fits_8 (fits_treeB ho h).1
 exact dNd_cut 4 h1 (h2.trans he) hb
theorem cont_bund (ho:∀ it∈its,It.Ok it) (cnt root:Int):contE cnt root (plainB its)=if (its.length:Int)≠cnt then (2,[]) else if rootV its≠root then (12,[]) else (0,its):=by
 obtain ⟨h1,h2,h3⟩:=buildE_parts hb
 unfold contE
 rw [dec_plain ho h3]
 simp only
 have e1:treeE cnt (treeB its) []=if (its.length:Int)≠cnt then 2 else 0:=by
  unfold treeE
  rw [if_neg (by simp)]
  show (if (3:Int)≠3∨(48:Int)≠48∨(((its.map tree).length:Nat):Int)≠cnt then (2:Int) else Rs.fstN (kidE (its.map tree)) (its.map tree).length)=_
  rw [List.length_map]
  by_cases h:(its.length:Int)≠cnt
  · rw [if_pos (Or.inr (Or.inr h)),if_pos h]
  · rw [if_neg (by simp only [ne_eq,not_true_eq_false,false_or];exact h),if_neg h]
    have:=kidE_trees hb
    rw [List.length_map] at this
    exact this
 rw [e1]
 by_cases h:(its.length:Int)≠cnt
 · rw [if_pos h,if_pos (show (2:Int)≠0 by decide),if_pos h]
 · rw [if_neg h,if_neg (show ¬ (0:Int)≠0 by decide),if_neg h]
   show (if restE root (kidsI (its.map tree))≠0 then (restE root (kidsI (its.map tree)),[]) else (0,kidsI (its.map tree)))=_
   rw [kidsI_trees]
   have e2:restE root its=if rootV its≠root then 12 else 0:=by
    unfold restE
    rw [if_neg (show ¬ Rs.chkI its≠0 by rw [h3];simp)]
   rw [e2]
   by_cases hr:rootV its≠root
   · rw [if_pos hr,if_pos (show (12:Int)≠0 by decide),if_pos hr]
   · rw [if_neg hr,if_neg (show ¬ (0:Int)≠0 by decide),if_neg hr]
end
theorem open_bund {k n s:Int} {its:List It.Item} (hb:buildE s its=0) (ho:∀ it∈its,It.Ok it) (hn:U64 n):opnR k (bundB k n s its)=(0,its):=by
 obtain ⟨h1,h2,h3⟩:=buildE_parts hb
 obtain ⟨hf,hl⟩:=fits_treeB ho h3
 unfold opnR
 rw [if_neg (by rw [bund_headE hb];simp),bund_X,seal_ok hl,if_neg (by simp),seal_open hn (plain_byt hf),cont_bund hb ho,bund_headN hb,bund_headR,if_neg (by simp),if_neg (by simp)]
theorem chk_bund {k n s:Int} {its:List It.Item} (hb:buildE s its=0):chkR (bundB k n s its) its=0:=by
 obtain ⟨h1,h2,h3⟩:=buildE_parts hb
 unfold chkR
 rw [if_neg (by rw [bund_headE hb];simp),if_neg (by rw [h3];simp),bund_headN hb,bund_headR,if_neg (by simp),if_neg (by simp)]
theorem bund_byt {k n s:Int} {its:List It.Item} (hb:buildE s its=0) (ho:∀ it∈its,It.Ok it):Byt (bundB k n s its):=by
 obtain ⟨h1,h2,h3⟩:=buildE_parts hb
 have hm:Byt magic:=fun x hx=>by
  unfold magic at hx
  simp only [List.mem_cons,List.not_mem_nil,or_false] at hx
  omega
 exact ((((hm.append (beB_byt _ _)).append (beB_byt _ _)).append (beB_byt _ _))).append (seal_byt _ _ (encT_byt 4 _ (fits_treeB ho h3).1))
theorem sub_byt {l:List Int} (h:Byt l) (a b:Nat):Byt (sub l a b):=(h.take b).drop a
theorem sub_len {l:List Int} {a b:Nat} (h:b≤l.length):(sub l a b).length=b-a:=by unfold sub;rw [List.length_drop,List.length_take,Nat.min_eq_left h]
theorem cut_open {k n s : Int} {its : List It.Item} (hb : buildE s its = 0) (ho : ∀ it ∈ its, It.Ok it) (hn : U64 n) {m : Nat} (hm : m < (bundB k n s its).length) :
    (opnR k ((bundB k n s its).take m)).2=[]∧((opnR k ((bundB k n s its).take m)).1=4∨(opnR k ((bundB k n s its).take m)).1=12):=by
 obtain ⟨h1,h2,h3⟩:=buildE_parts hb
 obtain ⟨hf,hl⟩:=fits_treeB ho h3
 have hL:=bund_len k n s its
 have hp:=plain_byt hf
 obtain ⟨C,hC⟩:∃ C,(bundB k n s its).take m=C:=⟨_,rfl⟩
 have hCL:C.length=m:=by rw [← hC,List.length_take,Nat.min_eq_left (by omega)]
 rw [hC]
 by_cases h20:m<20
 · have hE:headE C=4:=by unfold headE;rw [if_pos (by omega)]
   unfold opnR
   rw [if_pos (by rw [hE];decide),hE]
   exact ⟨rfl,Or.inl rfl⟩
 have hsub:∀ a b:Nat,b≤20→sub C a b=sub (bundB k n s its) a b:=fun a b h=>by
  unfold sub
  rw [← hC,List.take_take,Nat.min_eq_left (by omega)]
 have hE:headE C=0:=by
  have e:=bund_headE (k:=k) (n:=n) hb
  unfold headE at e ⊢
  rw [if_neg (by omega)] at e ⊢
  rw [hsub 4 8 (by omega),hsub 8 12 (by omega),show C.take 4=(bundB k n s its).take 4 by rw [← hC,List.take_take,Nat.min_eq_left (by omega)]]
  exact e
 obtain ⟨S,hS⟩:∃ S,sealB (derive k) n (plainB its)=S:=⟨_,rfl⟩
 have hSL:=seal_len (derive k) n (plainB its)
 rw [hS] at hSL
 have hX:C.drop 20=S.take (m-20):=by
  rw [← hC,List.drop_take,bund_X,hS]
 have hlen:(C.drop 20).length=m-20:=by rw [List.length_drop,hCL]
 unfold opnR
 rw [if_neg (by rw [hE];simp)]
 by_cases h0:openE (derive k) (C.drop 20)≠0
 · rw [if_pos h0]
   refine ⟨rfl,?_⟩
   show openE (derive k) (C.drop 20)=4∨openE (derive k) (C.drop 20)=12
   unfold openE at h0 ⊢
   split
   · exact Or.inl rfl
   · rw [if_neg (by omega)]
     rename_i h16
     rw [if_neg h16,if_neg (by omega)] at h0
     split at h0
     · rename_i h5
       rw [if_pos h5]
       exact Or.inr rfl
     · exact absurd rfl h0
 · rw [if_neg h0]
   have h16:16≤m-20:=by
    rcases Nat.lt_or_ge (m-20) 16 with g | g
    · exact absurd (show openE (derive k) (C.drop 20)≠0 by unfold openE;rw [if_pos (by omega)];decide) h0
    · exact g
   -- the nonce is the same;what is unsealed is a proper prefix of the content
   have hbody:(C.drop 20).take ((C.drop 20).length-8)=(bodyB (derive k) n (plainB its)).take (m-28):=by
    rw [hlen,hX,List.take_take,Nat.min_eq_left (by omega),← hS]
    unfold sealB
    rw [List.take_append_of_le_length (by rw [body_len];omega),show m-20-8=m-28 by omega]
   have hN:openN (C.drop 20)=n:=by
    unfold openN
    rw [hbody,List.take_take,Nat.min_eq_left (by omega)]
    unfold bodyB
    rw [List.take_append_of_le_length (by rw [beB_len];omega),List.take_of_length_le (by rw [beB_len];omega)]
    exact rd8 hn
   have hP:openP (derive k) (C.drop 20)=(plainB its).take (m-36):=by
    unfold openP
    rw [hN,hbody,List.drop_take]
    unfold bodyB
    rw [List.drop_append,List.drop_eq_nil_of_le (by rw [beB_len];omega),List.nil_append,beB_len,Nat.sub_self,List.drop_zero,← mix_take,mix_back _ _ (hp.take _),show m-28-8=m-36 by omega]
   rw [hP]
   unfold contE
   rw [dec_cut (b:=(plainB its).drop (m-36)) ho h3 (List.take_append_drop _ _).symm (fun e=>by
    have:=congrArg List.length e
    rw [List.length_drop,List.length_nil] at this
    omega)]
   exact ⟨rfl,Or.inl rfl⟩
end Bu
end Go.Proofs.YtnlenappjjlbjaaGreatDoor
