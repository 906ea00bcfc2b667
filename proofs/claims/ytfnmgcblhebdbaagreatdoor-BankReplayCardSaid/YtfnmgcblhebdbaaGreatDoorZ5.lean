/- The review workflow as plain data: what is possible, who is excluded, what an action makes of a record: no program in sight (but for the machine's own 'and' on integers). No conditions. -/
import Derived.Laws.Entries
import Init.Omega
namespace Go.Proofs.YtfnmgcblhebdbaaGreatDoor.Rev

structure Act where
 kind:Int
 user:Int
 roles:Int
 time:Int
deriving DecidableEq
structure Rec where
 st:Int
 au:Int
 ap:List Int
 fa:List Int
 log:List Act
deriving DecidableEq
def role (k s:Int):Int :=
 if k=1 then 1 else if k=2 then 2 else if k=3 then(if s=3 then 4 else 2)else if k=4 then 4 else if k=5 then 8 else if k=6 then 24
 else if k=7 then 16 else if k=8 then 16 else 1
def poss (k s:Int):Bool :=
 if k=1 then decide (s=1)else if k=2 then decide (s=2)else if k=3 then decide (s=3∨s=2)else if k=4 then decide (s=3)else if k=5 then decide (s=4)else if k=6 then decide (s=5)
 else if k=7 then decide (s=6)else if k=8 then decide (1≤s∧s≤6)else decide (4≤s∧s≤6)
def excl (r:Rec)(k u:Int):Bool :=
 if k=1∨k=9 then decide (u≠r.au)else if k=2∨k=4 then(decide (u=r.au) || decide (u∈r.ap))else if k=3 then decide (u=r.au)else false
def lastTime (log:List Act):Int:=match log.getLast? with | some a=>a.time | none=>0
def late (log:List Act)(t:Int):Bool:=match log.getLast? with | some a=>decide (t<a.time) | none=>false

def allowedE (r:Rec)(a:Act):Int :=
 if a.kind<1∨9<a.kind then 1 else if a.user<1∨9999999<a.user∨a.time<0∨1099511627776<a.time then 3
 else if 200≤r.log.length then 5 else if late r.log a.time=true then 15 else if poss a.kind r.st=false then 8
 else if Go.bits .and .i64 a.roles (role a.kind r.st)=0 then 9 else if excl r a.kind a.user=true then 10 else 0

def next (r:Rec)(a:Act):Rec :=
 let l:=r.log ++ [a]
 if a.kind=1 then⟨2,r.au,r.ap,r.fa,l⟩
 else if a.kind=2 then⟨if 2≤r.ap.length+1 then 3 else r.st,r.au,r.ap ++ [a.user],r.fa,l⟩
 else if a.kind=3∨a.kind=9 then⟨1,r.au,[],[],l⟩
 else if a.kind=4 then⟨4,r.au,r.ap,r.fa ++ [a.user],l⟩
 else if a.kind=5∨a.kind=7 then⟨5,r.au,r.ap,r.fa,l⟩
 else if a.kind=6 then⟨6,r.au,r.ap,r.fa,l⟩
 else if a.kind=8 then⟨7,r.au,r.ap,r.fa,l⟩
 else⟨r.st,r.au,r.ap,r.fa,l⟩
def zero:Rec:=⟨0,0,[],[],[]⟩
def applyR (r:Rec)(a:Act):Rec:=if allowedE r a=0 then next r a else zero

def newE (au:Int):Int:=if au<1∨9999999<au then 3 else 0
def newR (au:Int):Rec:=if au<1∨9999999<au then zero else⟨1,au,[],[],[]⟩
end Go.Proofs.YtfnmgcblhebdbaaGreatDoor.Rev
namespace Go.Proofs.YtfnmgcblhebdbaaGreatDoor.Rev
theorem allowed_zero{r:Rec}{a:Act}(h:allowedE r a=0):1≤a.kind∧a.kind≤9∧r.log.length<200:=by
 unfold allowedE at h;by_cases h1:a.kind<1∨9<a.kind
 · rw[if_pos h1]at h;cases h
 · rw[if_neg h1]at h;by_cases h2:a.user<1∨9999999<a.user∨a.time<0∨1099511627776<a.time
   · rw[if_pos h2]at h;cases h
   · rw[if_neg h2]at h;by_cases h3:200≤r.log.length
     · rw[if_pos h3]at h;cases h
     · exact⟨by omega,by omega,by omega⟩
theorem allowed_more{r:Rec}{a:Act}(h:allowedE r a=0):late r.log a.time=false∧poss a.kind r.st=true∧excl r a.kind a.user=false:=by
 obtain⟨k1,k2,k3⟩:=allowed_zero h;unfold allowedE at h;rw[if_neg (by omega)]at h;by_cases h2:a.user<1∨9999999<a.user∨a.time<0∨1099511627776<a.time
 · rw[if_pos h2]at h;cases h
 · rw[if_neg h2,if_neg (by omega)]at h;by_cases h3:late r.log a.time=true
   · rw[if_pos h3]at h;cases h
   · rw[if_neg h3]at h;by_cases h4:poss a.kind r.st=false
     · rw[if_pos h4]at h;cases h
     · rw[if_neg h4]at h;by_cases h5:Go.bits .and .i64 a.roles (role a.kind r.st)=0
       · rw[if_pos h5]at h;cases h
       · rw[if_neg h5]at h;by_cases h6:excl r a.kind a.user=true
         · rw[if_pos h6]at h;cases h
         · exact⟨by simpa using h3,by simpa using h4,by simpa using h6⟩
theorem kind_cases{k:Int}(h1:1≤k)(h2:k≤9):k=1∨k=2∨k=3∨k=4∨k=5∨k=6∨k=7∨k=8∨k=9:=by omega
theorem next_au(r:Rec)(a:Act):(next r a).au=r.au:=by
 unfold next;repeat' split
 all_goals rfl
theorem next_log(r:Rec)(a:Act):(next r a).log=r.log ++ [a]:=by
 unfold next;repeat' split
 all_goals rfl
theorem next_len(r:Rec)(a:Act):(next r a).ap.length≤r.ap.length+1∧(next r a).fa.length≤r.fa.length+1:=by
 unfold next;repeat' split
 all_goals simp

theorem next_1(r:Rec)(u ro t:Int):next r ⟨1,u,ro,t⟩=⟨2,r.au,r.ap,r.fa,r.log ++ [⟨1,u,ro,t⟩]⟩:=by simp[next]
theorem next_2(r:Rec)(u ro t:Int):next r ⟨2,u,ro,t⟩=⟨if 2≤r.ap.length+1 then 3 else r.st,r.au,r.ap ++ [u],r.fa,r.log ++ [⟨2,u,ro,t⟩]⟩:=by simp[next]
theorem next_3(r:Rec)(u ro t:Int):next r ⟨3,u,ro,t⟩=⟨1,r.au,[],[],r.log ++ [⟨3,u,ro,t⟩]⟩:=by simp[next]
theorem next_4(r:Rec)(u ro t:Int):next r ⟨4,u,ro,t⟩=⟨4,r.au,r.ap,r.fa ++ [u],r.log ++ [⟨4,u,ro,t⟩]⟩:=by simp[next]
theorem next_5(r:Rec)(u ro t:Int):next r ⟨5,u,ro,t⟩=⟨5,r.au,r.ap,r.fa,r.log ++ [⟨5,u,ro,t⟩]⟩:=by simp[next]
theorem next_6(r:Rec)(u ro t:Int):next r ⟨6,u,ro,t⟩=⟨6,r.au,r.ap,r.fa,r.log ++ [⟨6,u,ro,t⟩]⟩:=by simp[next]
theorem next_7(r:Rec)(u ro t:Int):next r ⟨7,u,ro,t⟩=⟨5,r.au,r.ap,r.fa,r.log ++ [⟨7,u,ro,t⟩]⟩:=by simp[next]
theorem next_8(r:Rec)(u ro t:Int):next r ⟨8,u,ro,t⟩=⟨7,r.au,r.ap,r.fa,r.log ++ [⟨8,u,ro,t⟩]⟩:=by simp[next]
theorem next_9(r:Rec)(u ro t:Int):next r ⟨9,u,ro,t⟩=⟨1,r.au,[],[],r.log ++ [⟨9,u,ro,t⟩]⟩:=by simp[next]

def perfL:Rec→List Act→Rec
 | r,[]=>r
 | r,a :: l=>perfL (if allowedE r a=0 then next r a else r) l
def start (au:Int):Rec:=⟨1,au,[],[],[]⟩
def perform (au:Int)(log:List Act):Rec:=perfL (start au) (log.take 300)

structure Inv (r:Rec):Prop where
 nd:r.ap.Nodup
 au:r.au ∉ r.ap
 s1:r.st=1→r.ap=[]∧r.fa=[]
 s2:r.st=2→r.fa=[]
 s3:r.st=3→r.fa=[]∧2≤r.ap.length
 s4:r.st=4∨r.st=5∨r.st=6→2≤r.ap.length∧∃ f,r.fa=[f]∧f≠r.au∧f ∉ r.ap
 bd:1≤r.st∧r.st≤7
theorem Inv.start(au:Int):Inv (start au):=⟨by simp[Rev.start],by simp[Rev.start],fun _=>⟨rfl,rfl⟩,fun _=>rfl,fun h=>by simp[Rev.start]at h,fun h=>by simp[Rev.start]at h,by simp[Rev.start]⟩
theorem excl_no{r:Rec}{u:Int}{k:Int}(h:excl r k u=false)(hk:k=2∨k=4):u≠r.au∧u ∉ r.ap:=by unfold excl at h;rw[if_neg (by omega),if_pos hk]at h;simpa using h
theorem Inv.next{r:Rec}{a:Act}(hi:Inv r)(h:allowedE r a=0):Inv (next r a):=by
 obtain⟨k1,k2,k3⟩:=allowed_zero h;obtain⟨-,hp,he⟩:=allowed_more h;obtain⟨k,u,ro,t⟩:=a;simp only at k1 k2 hp he;have hk:=kind_cases k1 k2;have hb:=hi.bd;unfold poss at hp;rcases hk with rfl | rfl | rfl | rfl | rfl | rfl | rfl | rfl | rfl
 · simp at hp;obtain⟨a1,a2⟩:=hi.s1 hp;rw[next_1];exact⟨hi.nd,hi.au,fun h=>by simp at h,fun _=>a2,fun h=>by simp at h,fun h=>by simp at h,by simp⟩
 · simp at hp;have a2:=hi.s2 hp;obtain⟨b1,b2⟩:=excl_no he (Or.inl rfl);rw[next_2];refine⟨?_,?_,fun h=>?_,fun h=>a2,fun h=>?_,fun h=>?_,?_⟩
   · rw[List.nodup_append];refine⟨hi.nd,by simp,fun x hx y hy e=>?_⟩;simp at hy;subst hy;subst e;exact b2 hx
   · intro hx;rcases List.mem_append.1 hx with g | g
     · exact hi.au g
     · simp at g;exact b1 g.symm
   · simp at h;split at h
     · cases h
     · omega
   · simp only at h;refine⟨a2,?_⟩;simp only;rw[List.length_append,List.length_singleton];split at h
     · omega
     · omega
   · simp at h;split at h
     · omega
     · omega
   · simp;split <;> omega
 · rw[next_3];exact⟨by simp,by simp,fun _=>by simp,fun h=>by simp at h,fun h=>by simp at h,fun h=>by simp at h,by simp⟩
 · simp at hp;obtain⟨a1,a2⟩:=hi.s3 hp;obtain⟨b1,b2⟩:=excl_no he (Or.inr rfl);rw[next_4];refine⟨hi.nd,hi.au,fun h=>by simp at h,fun h=>by simp at h,fun h=>by simp at h,fun _=>?_,by simp⟩;simp[a1,a2,b1,b2]
 · simp at hp;obtain⟨a1,f,a2,a3,a4⟩:=hi.s4 (Or.inl hp);rw[next_5];refine⟨hi.nd,hi.au,fun h=>by simp at h,fun h=>by simp at h,fun h=>by simp at h,fun _=>?_,by simp⟩;simp[a1,a2,a3,a4]
 · simp at hp;obtain⟨a1,f,a2,a3,a4⟩:=hi.s4 (Or.inr (Or.inl hp));rw[next_6];refine⟨hi.nd,hi.au,fun h=>by simp at h,fun h=>by simp at h,fun h=>by simp at h,fun _=>?_,by simp⟩;simp[a1,a2,a3,a4]
 · simp at hp;obtain⟨a1,f,a2,a3,a4⟩:=hi.s4 (Or.inr (Or.inr hp));rw[next_7];refine⟨hi.nd,hi.au,fun h=>by simp at h,fun h=>by simp at h,fun h=>by simp at h,fun _=>?_,by simp⟩;simp[a1,a2,a3,a4]
 · rw[next_8];exact⟨hi.nd,hi.au,fun h=>by simp at h,fun h=>by simp at h,fun h=>by simp at h,fun h=>by simp at h,by simp⟩
 · rw[next_9];exact⟨by simp,by simp,fun _=>by simp,fun h=>by simp at h,fun h=>by simp at h,fun h=>by simp at h,by simp⟩
def goR (r:Rec)(i:Nat):List Act→Rec×Nat×Int
 | []=>(r,i,0)
 | a :: l=>if allowedE r a=0 then goR (next r a) (i+1) l else(zero,i,allowedE r a)
def replayR (au:Int)(log:List Act):Rec×Nat×Int:=if newE au=0 then goR (start au) 0 log else(zero,0,newE au)
theorem goR_yes{r:Rec}{i:Nat}{a:Act}{l:List Act}(h:allowedE r a=0):goR r i (a :: l)=goR (next r a) (i+1) l:=by rw[goR,if_pos h]
theorem goR_no{r:Rec}{i:Nat}{a:Act}{l:List Act}(h:allowedE r a≠0):goR r i (a :: l)=(zero,i,allowedE r a):=by rw[goR,if_neg h]
theorem goR_append{r:Rec}:∀ {l:List Act} {i:Nat} {r0:Rec} {n:Nat} (m:List Act),goR r0 i l=(r,n,0)→(∀ x,allowedE r0 x=allowedE r0 x)→goR r0 i (l ++ m)=goR r n m
 | [],i,r0,n,m,h,_=>by rw[goR]at h;injection h with h1 h2;injection h2 with h2 _;subst h1 h2;rfl
 | a :: l,i,r0,n,m,h,_=>by
  rw[List.cons_append,goR];rw[goR]at h;by_cases z:allowedE r0 a=0
  · rw[if_pos z]at h ⊢;exact goR_append m h (fun _=>rfl)
  · rw[if_neg z]at h;injection h with _ h2;injection h2 with _ h3;exact absurd h3 z
end Go.Proofs.YtfnmgcblhebdbaaGreatDoor.Rev
