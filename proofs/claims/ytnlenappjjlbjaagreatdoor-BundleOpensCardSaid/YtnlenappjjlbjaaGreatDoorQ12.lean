/- item.Encode: an item as a tree: a contract. Conditions: those of each theorem. -/
import Derived.Test.YtnlenappjjlbjaaGreatDoorQ8
import Derived.Test.YtnlenappjjlbjaaGreatDoorQ11
import Derived.Shelf.Abstract
namespace Go.Proofs.YtnlenappjjlbjaaGreatDoor
open Go.RowKit Go.Shelf

def flds (it:It.Item):List Nd:=[.mk 1 1 it.id ⟨#[]⟩ [],.mk 2 1 it.ver ⟨#[]⟩ [],.mk 3 1 it.kind ⟨#[]⟩ [],.mk 4 2 0 it.stem [],.mk 5 3 0 ⟨#[]⟩ (it.opts.map leafS),.mk 6 3 0 ⟨#[]⟩ (it.chs.map leafI),.mk 7 1 it.value ⟨#[]⟩ [],.mk 8 1 it.tol ⟨#[]⟩ [],.mk 9 3 0 ⟨#[]⟩ (it.texts.map leafS),.mk 10 1 it.pts ⟨#[]⟩ [],.mk 11 2 0 it.cont [],.mk 12 1 it.fam ⟨#[]⟩ [],.mk 13 1 it.set_ ⟨#[]⟩ [],.mk 14 1 it.wrd ⟨#[]⟩ [],.mk 15 1 it.sec ⟨#[]⟩ [],.mk 16 3 0 ⟨#[]⟩ (it.assets.map leafI),.mk 17 1 it.rub ⟨#[]⟩ []]
def tree (it:It.Item):Nd:=.mk 14 3 0 ⟨#[]⟩ (flds it)
theorem kids_block {B lo d : Nat} {w : World} {ks : List Nd} {Ms : List (Option Addr × Nat)} (T : TypeId) (hl : Ms.length = ks.length) (hk : ∀ (i : Nat) (x : Nd) (M : Option Addr × Nat), ks[i]? = some x → Ms[i]? = some M → KidsAt B lo d w M x.kids) (hB : ks.length ≤ B) (hm : ks.length ≤ maxLen) (hlo : lo ≤ w.heap.size) :
    KidsAt B lo (d+1) (w.alloc (.cells ((List.zipWith ndc ks Ms).flatten).toArray T)) (some ⟨w.heap.size,0,none⟩,ks.length) ks:=by
 refine ⟨hB,Nat.le_refl _,hm,Or.inr ⟨w.heap.size,0,Ms,rfl,hlo,by simp,hl,fun i x M hx hM=>⟨fun j v hv=>?_,(hk i x M hx hM).ext ((Ext.refl _).alloc _)⟩⟩⟩
 rw [World.cell?_alloc_new,Nat.zero_add]
 have hz:(List.zipWith ndc ks Ms)[i]?=some (ndc x M):=by rw [List.getElem?_zipWith,hx,hM]
 have:=flatten_at (k:=5) (xs:=List.zipWith ndc ks Ms) (fun c hc=>by
  obtain ⟨i,hi,rfl⟩:=List.mem_iff_getElem.1 hc
  rw [List.getElem_zipWith];rfl) hz hv
 simpa using this
def ResB (g:Nat) (w:World):Prop:=∃ cs:Array Value,w.heap[g]?=some (.cells cs 52 (0,0))∧cs.size=5
theorem ResB.ext {g:Nat} {w w':World} (h:ResB g w) (he:Ext w w'):ResB g w':=by obtain ⟨cs,h1,h2⟩:=h;exact ⟨cs,he.blockAt h1,h2⟩
theorem ResB.cell {g:Nat} {w:World} (h:ResB g w) {i:Nat} (hi:i<5):∃ v,w.cell? ⟨g,i,none⟩=some v:=by
 obtain ⟨cs,h1,h2⟩:=h
 exact ⟨cs[i],by rw [cell_of_row w g i cs _ _ h1];exact Array.getElem?_eq_getElem (by omega)⟩
theorem ResB.free {g:Nat} {w:World} (h:ResB g w) (i:Nat):w.frozen? ⟨g,i,none⟩=false:=by
 obtain ⟨cs,h1,h2⟩:=h
 simp [World.frozen?,h1]
theorem ResB.set {g:Nat} {w:World} (h:ResB g w) (i:Nat) (v:Value):ResB g (w.setCell ⟨g,i,none⟩ v):=by
 obtain ⟨cs,h1,h2⟩:=h
 exact ⟨cs.setIfInBounds i v,by simp [World.setCell,Array.getElem?_modify,h1],by simpa using h2⟩
def BoxI (it:It.Item) (L:It.Loc) (g:Nat) (w:World):Prop:=g<w.heap.size∧∀ i v,(It.cells it L)[i]?=some v→w.cell? ⟨g,i,none⟩=some v
theorem BoxI.ext {it:It.Item} {L:It.Loc} {g:Nat} {w w':World} (h:BoxI it L g w) (he:Ext w w'):BoxI it L g w':=⟨Nat.lt_of_lt_of_le h.1 he.size,fun i v hv=>he.keep (h.2 i v hv)⟩
theorem BoxI.set {it:It.Item} {L:It.Loc} {g:Nat} {w:World} (h:BoxI it L g w) {p:Addr} (hp:p.block≠g) (v:Value):BoxI it L g (w.setCell p v) :=
 ⟨by simpa using h.1,fun i u hu=>by rw [World.cell?_of_block (w:=w) (w':=w.setCell p v) (Below.heap_setCell _ _ _ _ (Ne.symm hp))];exact h.2 i u hu⟩
def Stb (g:Nat) (p:Option Value→World→Prop):Prop:=(∀ u w w',Ext w w'→p u w→p u w')∧∀ u w i v,p u w→p u (w.setCell ⟨g+1,i,none⟩ v)
theorem stb_val (g:Nat) (v:Value):Stb g (fun u _=>u=some v):=⟨fun _ _ _ _ h=>h,fun _ _ _ _ h=>h⟩
theorem stb_true (g:Nat):Stb g (fun _ _=>True):=⟨fun _ _ _ _ _=>trivial,fun _ _ _ _ _=>trivial⟩
theorem stb_nd (g B d:Nat) (x:Nd):Stb g (fun u w=>∃ M:Option Addr×Nat,u=some (nda x M)∧KidsAt B (g+2) d w M x.kids) :=
 ⟨fun _ _ _ he ⟨M,e,h⟩=>⟨M,e,h.ext he⟩,fun _ _ _ _ ⟨M,e,h⟩=>⟨M,e,h.setCell (Nat.lt_succ_self _)⟩⟩
theorem stb_sl (g B d n:Nat) (ks:List Nd):Stb g (fun u w=>∃ q:Nat,u=some (.slice (some ⟨q,0,none⟩) n n)∧KidsAt B (g+2) d w (some ⟨q,0,none⟩,n) ks) :=
 ⟨fun _ _ _ he ⟨M,e,h⟩=>⟨M,e,h.ext he⟩,fun _ _ _ _ ⟨M,e,h⟩=>⟨M,e,h.setCell (Nat.lt_succ_self _)⟩⟩
theorem stb_box (it:It.Item) (L:It.Loc) (g:Nat):Stb g (fun _ w=>BoxI it L g w∧ResB (g+1) w) :=
 ⟨fun _ _ _ he ⟨h,k⟩=>⟨h.ext he,k.ext he⟩,fun _ _ _ _ ⟨h,k⟩=>⟨h.set (by simp) _,k.set _ _⟩⟩
def AllStb (g:Nat):List (Option Value→World→Prop)→Prop
 | []=>True
 | p :: l=>Stb g p∧AllStb g l
theorem AllStb.at_ {g:Nat}:∀ {l:List (Option Value→World→Prop)},AllStb g l→∀ j,Stb g (l.getD j fun _ _=>True)
 | [],_,j=>by simpa using stb_true g
 | p :: l,h,0=>h.1
 | p :: l,h,j+1=>by simpa using AllStb.at_ h.2 j

def encL (it:It.Item) (L:It.Loc) (g:Nat):List (Option Value→World→Prop):=[fun u _=>u=some (.pointer (some ⟨g,0,none⟩)),
 fun u _=>u=some (.int .i64 it.id),
 fun u w=>∃ M:Option Addr×Nat,u=some (nda (.mk 1 1 it.id ⟨#[]⟩ []) M)∧KidsAt 1000 (g+2) 1 w M (Nd.kids (.mk 1 1 it.id ⟨#[]⟩ [])),
 fun u _=>u=some (.pointer (some ⟨g,1,none⟩)),
 fun u _=>u=some (.int .i64 it.ver),
 fun u w=>∃ M:Option Addr×Nat,u=some (nda (.mk 2 1 it.ver ⟨#[]⟩ []) M)∧KidsAt 1000 (g+2) 1 w M (Nd.kids (.mk 2 1 it.ver ⟨#[]⟩ [])),
 fun u _=>u=some (.pointer (some ⟨g,2,none⟩)),
 fun u _=>u=some (.int .i64 it.kind),
 fun u w=>∃ M:Option Addr×Nat,u=some (nda (.mk 3 1 it.kind ⟨#[]⟩ []) M)∧KidsAt 1000 (g+2) 1 w M (Nd.kids (.mk 3 1 it.kind ⟨#[]⟩ [])),
 fun u _=>u=some (.pointer (some ⟨g,3,none⟩)),
 fun u _=>u=some (.string it.stem),
 fun u w=>∃ M:Option Addr×Nat,u=some (nda (.mk 4 2 0 it.stem []) M)∧KidsAt 1000 (g+2) 1 w M (Nd.kids (.mk 4 2 0 it.stem [])),
 fun u _=>u=some (.pointer (some ⟨g,4,none⟩)),
 fun u _=>u=some (.slice L.oA it.opts.length L.oc),
 fun u w=>∃ M:Option Addr×Nat,u=some (nda (.mk 5 3 0 ⟨#[]⟩ (it.opts.map leafS)) M)∧KidsAt 1000 (g+2) 1 w M (Nd.kids (.mk 5 3 0 ⟨#[]⟩ (it.opts.map leafS))),
 fun u _=>u=some (.pointer (some ⟨g,5,none⟩)),
 fun u _=>u=some (.slice L.cA it.chs.length L.cc),
 fun u w=>∃ M:Option Addr×Nat,u=some (nda (.mk 6 3 0 ⟨#[]⟩ (it.chs.map leafI)) M)∧KidsAt 1000 (g+2) 1 w M (Nd.kids (.mk 6 3 0 ⟨#[]⟩ (it.chs.map leafI))),
 fun u _=>u=some (.pointer (some ⟨g,6,none⟩)),
 fun u _=>u=some (.int .i64 it.value),
 fun u w=>∃ M:Option Addr×Nat,u=some (nda (.mk 7 1 it.value ⟨#[]⟩ []) M)∧KidsAt 1000 (g+2) 1 w M (Nd.kids (.mk 7 1 it.value ⟨#[]⟩ [])),
 fun u _=>u=some (.pointer (some ⟨g,7,none⟩)),
 fun u _=>u=some (.int .i64 it.tol),
 fun u w=>∃ M:Option Addr×Nat,u=some (nda (.mk 8 1 it.tol ⟨#[]⟩ []) M)∧KidsAt 1000 (g+2) 1 w M (Nd.kids (.mk 8 1 it.tol ⟨#[]⟩ [])),
 fun u _=>u=some (.pointer (some ⟨g,8,none⟩)),
 fun u _=>u=some (.slice L.tA it.texts.length L.tc),
 fun u w=>∃ M:Option Addr×Nat,u=some (nda (.mk 9 3 0 ⟨#[]⟩ (it.texts.map leafS)) M)∧KidsAt 1000 (g+2) 1 w M (Nd.kids (.mk 9 3 0 ⟨#[]⟩ (it.texts.map leafS))),
 fun u _=>u=some (.pointer (some ⟨g,9,none⟩)),
 fun u _=>u=some (.int .i64 it.pts),
 fun u w=>∃ M:Option Addr×Nat,u=some (nda (.mk 10 1 it.pts ⟨#[]⟩ []) M)∧KidsAt 1000 (g+2) 1 w M (Nd.kids (.mk 10 1 it.pts ⟨#[]⟩ [])),
 fun u _=>u=some (.pointer (some ⟨g,10,none⟩)),
 fun u _=>u=some (.string it.cont),
 fun u w=>∃ M:Option Addr×Nat,u=some (nda (.mk 11 2 0 it.cont []) M)∧KidsAt 1000 (g+2) 1 w M (Nd.kids (.mk 11 2 0 it.cont [])),
 fun u _=>u=some (.pointer (some ⟨g,11,none⟩)),
 fun u _=>u=some (.int .i64 it.fam),
 fun u w=>∃ M:Option Addr×Nat,u=some (nda (.mk 12 1 it.fam ⟨#[]⟩ []) M)∧KidsAt 1000 (g+2) 1 w M (Nd.kids (.mk 12 1 it.fam ⟨#[]⟩ [])),
 fun u _=>u=some (.pointer (some ⟨g,12,none⟩)),
 fun u _=>u=some (.int .i64 it.set_),
 fun u w=>∃ M:Option Addr×Nat,u=some (nda (.mk 13 1 it.set_ ⟨#[]⟩ []) M)∧KidsAt 1000 (g+2) 1 w M (Nd.kids (.mk 13 1 it.set_ ⟨#[]⟩ [])),
 fun u _=>u=some (.pointer (some ⟨g,13,none⟩)),
 fun u _=>u=some (.int .i64 it.wrd),
 fun u w=>∃ M:Option Addr×Nat,u=some (nda (.mk 14 1 it.wrd ⟨#[]⟩ []) M)∧KidsAt 1000 (g+2) 1 w M (Nd.kids (.mk 14 1 it.wrd ⟨#[]⟩ [])),
 fun u _=>u=some (.pointer (some ⟨g,14,none⟩)),
 fun u _=>u=some (.int .i64 it.sec),
 fun u w=>∃ M:Option Addr×Nat,u=some (nda (.mk 15 1 it.sec ⟨#[]⟩ []) M)∧KidsAt 1000 (g+2) 1 w M (Nd.kids (.mk 15 1 it.sec ⟨#[]⟩ [])),
 fun u _=>u=some (.pointer (some ⟨g,15,none⟩)),
 fun u _=>u=some (.slice L.sA it.assets.length L.sc),
 fun u w=>∃ M:Option Addr×Nat,u=some (nda (.mk 16 3 0 ⟨#[]⟩ (it.assets.map leafI)) M)∧KidsAt 1000 (g+2) 1 w M (Nd.kids (.mk 16 3 0 ⟨#[]⟩ (it.assets.map leafI))),
 fun u _=>u=some (.pointer (some ⟨g,16,none⟩)),
 fun u _=>u=some (.int .i64 it.rub),
 fun u w=>∃ M:Option Addr×Nat,u=some (nda (.mk 17 1 it.rub ⟨#[]⟩ []) M)∧KidsAt 1000 (g+2) 1 w M (Nd.kids (.mk 17 1 it.rub ⟨#[]⟩ [])),
 fun u w=>∃ q:Nat,u=some (.slice (some ⟨q,0,none⟩) 17 17)∧KidsAt 1000 (g+2) 2 w (some ⟨q,0,none⟩,17) (flds it),
 fun u w=>∃ M:Option Addr×Nat,u=some (nda (tree it) M)∧KidsAt 1000 (g+2) 2 w M (tree it).kids,
 fun _ _=>True,
 fun u _=>u=some (.int .i64 0),
 fun _ w=>BoxI it L g w∧ResB (g+1) w]
theorem encL_stb (it:It.Item) (L:It.Loc) (g:Nat):AllStb g (encL it L g):=⟨stb_val _ _,stb_val _ _,stb_nd _ _ _ _,stb_val _ _,stb_val _ _,stb_nd _ _ _ _,stb_val _ _,stb_val _ _,stb_nd _ _ _ _,stb_val _ _,stb_val _ _,stb_nd _ _ _ _,stb_val _ _,stb_val _ _,stb_nd _ _ _ _,stb_val _ _,stb_val _ _,stb_nd _ _ _ _,stb_val _ _,stb_val _ _,stb_nd _ _ _ _,stb_val _ _,stb_val _ _,stb_nd _ _ _ _,stb_val _ _,stb_val _ _,stb_nd _ _ _ _,stb_val _ _,stb_val _ _,stb_nd _ _ _ _,stb_val _ _,stb_val _ _,stb_nd _ _ _ _,stb_val _ _,stb_val _ _,stb_nd _ _ _ _,stb_val _ _,stb_val _ _,stb_nd _ _ _ _,stb_val _ _,stb_val _ _,stb_nd _ _ _ _,stb_val _ _,stb_val _ _,stb_nd _ _ _ _,stb_val _ _,stb_val _ _,stb_nd _ _ _ _,stb_val _ _,stb_val _ _,stb_nd _ _ _ _,stb_sl _ _ _ _ _,stb_nd _ _ _ _,stb_true _,stb_val _ _,stb_box _ _ _,trivial⟩
def EncDone (it:It.Item) (g:Nat) (w:World):Prop:=∃ M:Option Addr×Nat,w.heap[g+1]?=some (.cells (ndc (tree it) M).toArray 52 (0,0))∧KidsAt 1000 (g+2) 2 w M (flds it)
theorem EncDone.ext {it:It.Item} {g:Nat} {w w':World} (h:EncDone it g w) (he:Ext w w'):EncDone it g w':=by
 obtain ⟨M,h1,h2⟩:=h
 exact ⟨M,he.blockAt h1,h2.ext he⟩
def encR (it:It.Item) (L:It.Loc) (g:Nat) (j:Nat) (u:Option Value) (w:World):Prop:=if j=53 then EncDone it g w else (encL it L g).getD j (fun _ _=>True) u w
theorem encR_ext (it:It.Item) (L:It.Loc) (g:Nat) (j:Nat) (u:Option Value) (w w':World) (he:Ext w w') (h:encR it L g j u w):encR it L g j u w':=by
 unfold encR at h ⊢
 by_cases e:j=53
 · rw [if_pos e] at h ⊢;exact h.ext he
 · rw [if_neg e] at h ⊢;exact ((encL_stb it L g).at_ j).1 u w w' he h
theorem encR_set (it:It.Item) (L:It.Loc) (g:Nat) (j:Nat) (hj:j≠53) (u:Option Value) (w:World) (i:Nat) (v:Value) (h:encR it L g j u w):encR it L g j u (w.setCell ⟨g+1,i,none⟩ v):=by
 unfold encR at h ⊢
 rw [if_neg hj] at h ⊢
 exact ((encL_stb it L g).at_ j).2 u w i v h
def encD:List Nat:=[11,12,13,14,15,16,17,18,19,20,21,22,23,24,25,26,27,28,29,30,31,32,33,34,35,36,37,38,39,40,41,42,43,44,45,46,47,48,49,50,51,52,53,54,55,56,57,58,59,60,61,62,63,1000,3,1001]
def encE (g:Nat) (t:Array Value):Prop:=t.getD 1 undef=.pointer (some ⟨g,0,none⟩)∧t.getD 2 undef=.pointer (some ⟨g+1,0,none⟩)∧t.size=64
theorem block_set5 {w:World} {g:Nat} (h:ResB g w) (v0 v1 v2 v3 v4:Value):(((((w.setCell ⟨g,0,none⟩ v0).setCell ⟨g,1,none⟩ v1).setCell ⟨g,2,none⟩ v2).setCell ⟨g,3,none⟩ v3).setCell ⟨g,4,none⟩ v4).heap[g]?=some (.cells #[v0,v1,v2,v3,v4] 52 (0,0)):=by
 obtain ⟨cs,h1,h2⟩:=h
 obtain ⟨c0,c1,c2,c3,c4,rfl⟩:∃ c0 c1 c2 c3 c4,cs=#[c0,c1,c2,c3,c4]:=by
  obtain ⟨l⟩:=cs
  match l,h2 with
  | [c0,c1,c2,c3,c4],_=>exact ⟨c0,c1,c2,c3,c4,rfl⟩
 simp [World.setCell,Array.getElem?_modify,h1]

theorem ResB.lt {g:Nat} {w:World} (h:ResB (g+1) w):g+2≤w.heap.size:=by
 obtain ⟨cs,h1,h2⟩:=h
 rcases Nat.lt_or_ge (g+1) w.heap.size with e | e
 · omega
 · rw [Array.getElem?_eq_none e] at h1;cases h1
theorem kids_all17 (it : It.Item) (lo : Nat) (w : World) {M0 : Option Addr × Nat} (k0 : KidsAt 1000 lo 1 w M0 (Nd.kids (.mk 1 1 it.id ⟨#[]⟩ []))) {M1 : Option Addr × Nat} (k1 : KidsAt 1000 lo 1 w M1 (Nd.kids (.mk 2 1 it.ver ⟨#[]⟩ []))) {M2 : Option Addr × Nat} (k2 : KidsAt 1000 lo 1 w M2 (Nd.kids (.mk 3 1 it.kind ⟨#[]⟩ []))) {M3 : Option Addr × Nat} (k3 : KidsAt 1000 lo 1 w M3 (Nd.kids (.mk 4 2 0 it.stem []))) {M4 : Option Addr × Nat} (k4 : KidsAt 1000 lo 1 w M4 (Nd.kids (.mk 5 3 0 ⟨#[]⟩ (it.opts.map leafS)))) {M5 : Option Addr × Nat} (k5 : KidsAt 1000 lo 1 w M5 (Nd.kids (.mk 6 3 0 ⟨#[]⟩ (it.chs.map leafI)))) {M6 : Option Addr × Nat} (k6 : KidsAt 1000 lo 1 w M6 (Nd.kids (.mk 7 1 it.value ⟨#[]⟩ []))) {M7 : Option Addr × Nat} (k7 : KidsAt 1000 lo 1 w M7 (Nd.kids (.mk 8 1 it.tol ⟨#[]⟩ []))) {M8 : Option Addr × Nat} (k8 : KidsAt 1000 lo 1 w M8 (Nd.kids (.mk 9 3 0 ⟨#[]⟩ (it.texts.map leafS)))) {M9 : Option Addr × Nat} (k9 : KidsAt 1000 lo 1 w M9 (Nd.kids (.mk 10 1 it.pts ⟨#[]⟩ []))) {M10 : Option Addr × Nat} (k10 : KidsAt 1000 lo 1 w M10 (Nd.kids (.mk 11 2 0 it.cont []))) {M11 : Option Addr × Nat} (k11 : KidsAt 1000 lo 1 w M11 (Nd.kids (.mk 12 1 it.fam ⟨#[]⟩ []))) {M12 : Option Addr × Nat} (k12 : KidsAt 1000 lo 1 w M12 (Nd.kids (.mk 13 1 it.set_ ⟨#[]⟩ []))) {M13 : Option Addr × Nat} (k13 : KidsAt 1000 lo 1 w M13 (Nd.kids (.mk 14 1 it.wrd ⟨#[]⟩ []))) {M14 : Option Addr × Nat} (k14 : KidsAt 1000 lo 1 w M14 (Nd.kids (.mk 15 1 it.sec ⟨#[]⟩ []))) {M15 : Option Addr × Nat} (k15 : KidsAt 1000 lo 1 w M15 (Nd.kids (.mk 16 3 0 ⟨#[]⟩ (it.assets.map leafI)))) {M16 : Option Addr × Nat} (k16 : KidsAt 1000 lo 1 w M16 (Nd.kids (.mk 17 1 it.rub ⟨#[]⟩ []))) :
    ∀ (i:Nat) (x:Nd) (M:Option Addr×Nat),(flds it)[i]?=some x→[M0,M1,M2,M3,M4,M5,M6,M7,M8,M9,M10,M11,M12,M13,M14,M15,M16][i]?=some M→KidsAt 1000 lo 1 w M x.kids:=by
 intro i x M hx hM
 match i,hx,hM with
 | 0,hx,hM=>obtain rfl:=Option.some.inj hx;obtain rfl:=Option.some.inj hM;exact k0
 | 1,hx,hM=>obtain rfl:=Option.some.inj hx;obtain rfl:=Option.some.inj hM;exact k1
 | 2,hx,hM=>obtain rfl:=Option.some.inj hx;obtain rfl:=Option.some.inj hM;exact k2
 | 3,hx,hM=>obtain rfl:=Option.some.inj hx;obtain rfl:=Option.some.inj hM;exact k3
 | 4,hx,hM=>obtain rfl:=Option.some.inj hx;obtain rfl:=Option.some.inj hM;exact k4
 | 5,hx,hM=>obtain rfl:=Option.some.inj hx;obtain rfl:=Option.some.inj hM;exact k5
 | 6,hx,hM=>obtain rfl:=Option.some.inj hx;obtain rfl:=Option.some.inj hM;exact k6
 | 7,hx,hM=>obtain rfl:=Option.some.inj hx;obtain rfl:=Option.some.inj hM;exact k7
 | 8,hx,hM=>obtain rfl:=Option.some.inj hx;obtain rfl:=Option.some.inj hM;exact k8
 | 9,hx,hM=>obtain rfl:=Option.some.inj hx;obtain rfl:=Option.some.inj hM;exact k9
 | 10,hx,hM=>obtain rfl:=Option.some.inj hx;obtain rfl:=Option.some.inj hM;exact k10
 | 11,hx,hM=>obtain rfl:=Option.some.inj hx;obtain rfl:=Option.some.inj hM;exact k11
 | 12,hx,hM=>obtain rfl:=Option.some.inj hx;obtain rfl:=Option.some.inj hM;exact k12
 | 13,hx,hM=>obtain rfl:=Option.some.inj hx;obtain rfl:=Option.some.inj hM;exact k13
 | 14,hx,hM=>obtain rfl:=Option.some.inj hx;obtain rfl:=Option.some.inj hM;exact k14
 | 15,hx,hM=>obtain rfl:=Option.some.inj hx;obtain rfl:=Option.some.inj hM;exact k15
 | 16,hx,hM=>obtain rfl:=Option.some.inj hx;obtain rfl:=Option.some.inj hM;exact k16
 | i+17,hx,_=>exact absurd hx (by simp [flds])
set_option maxRecDepth 100000 in
set_option maxHeartbeats 32000000 in
theorem encode_ok (it : It.Item) (L : It.Loc) (w : World) (h : It.In w it L) (hval : ∀ w', Ext w w' → It.In w' it L → Calls Tryz.prog 50 #[It.agg it L] w' fun e w2 => e = .returned (.int .i64 0) ∧ Ext w' w2) (ho0 : it.opts.length ≤ 1000) (hc0 : it.chs.length ≤ 1000) (ht0 : it.texts.length ≤ 1000) (hs0 : it.assets.length ≤ 1000) :
    Calls Tryz.prog 23 #[It.agg it L] w fun e w'=>(∃ M:Option Addr×Nat,e=.returned (.tuple #[nda (tree it) M,.int .i64 0])∧KidsAt 1000 w.heap.size 2 w' M (flds it))∧Ext w w':=by
 have H:=Hi h
 have HVAL:=Hi hval
 clear h hval
 have e33:=enters_of Tryz.func51 (by kernel_rfl) rfl
 have e34:=enters_of Tryz.func52 (by kernel_rfl) rfl
 have e35:=enters_of Tryz.func53 (by kernel_rfl) rfl
 have e36:=enters_of Tryz.func54 (by kernel_rfl) rfl
 have e32:=enters_of Tryz.func25 (by kernel_rfl) rfl
 have EI:=Hi e33
 have ES:=Hi e34
 have ET:=Hi e35
 have EN:=Hi e36
 have EL:=Hi e32
 clear e33 e34 e35 e36 e32
 unfold It.agg
 go_enter Tryz.func23,Tryz.ntmps23
 go_wp2_with fail
 refine (HVAL.out _ (((Ext.refl _).alloc _).alloc _) (H.out.ext (((Ext.refl _).alloc _).alloc _))).mono ?_
 rintro e w1 ⟨rfl,hb1⟩
 have hbx:BoxI it L w.heap.size w1:=BoxI.ext (w:=(w.alloc (.cells #[.int .i64 it.id,.int .i64 it.ver,.int .i64 it.kind,.string it.stem,.slice L.oA it.opts.length L.oc,.slice L.cA it.chs.length L.cc,.int .i64 it.value,.int .i64 it.tol,.slice L.tA it.texts.length L.tc,.int .i64 it.pts,.string it.cont,.int .i64 it.fam,.int .i64 it.set_,.int .i64 it.wrd,.int .i64 it.sec,.slice L.sA it.assets.length L.sc,.int .i64 it.rub] 45)).alloc (.cells #[.int .i64 0,.int .i64 0,.int .i64 0,.string ⟨#[]⟩,.slice none 0 0] 52)) ⟨by simp;omega,fun i v hv=>by
  refine ((Ext.refl _).alloc _).keep ?_
  rw [World.cell?_alloc_new,← hv]
  simp [It.cells]⟩ hb1
 have hrs:ResB (w.heap.size+1) w1:=ResB.ext (w:=(w.alloc (.cells #[.int .i64 it.id,.int .i64 it.ver,.int .i64 it.kind,.string it.stem,.slice L.oA it.opts.length L.oc,.slice L.cA it.chs.length L.cc,.int .i64 it.value,.int .i64 it.tol,.slice L.tA it.texts.length L.tc,.int .i64 it.pts,.string it.cont,.int .i64 it.fam,.int .i64 it.set_,.int .i64 it.wrd,.int .i64 it.sec,.slice L.sA it.assets.length L.sc,.int .i64 it.rub] 45)).alloc (.cells #[.int .i64 0,.int .i64 0,.int .i64 0,.string ⟨#[]⟩,.slice none 0 0] 52)) ⟨_,heap_new_at _ _ _ (by simp),rfl⟩ hb1
 have HBX:=Hi hbx
 have HRS:=Hi hrs
 have X1:Hid (Ext w w1):=Hi ((((Ext.refl w).alloc _).alloc _).trans hb1)
 have hz1:Hid (w.heap.size+2≤w1.heap.size):=Hi (by have:=hb1.size;simp at this;omega)
 clear hbx hrs hb1
 go_wp2_with fail
 refine region_tb (by kernel_rfl) (by decide +kernel) (encE w.heap.size) ⟨rfl,rfl,rfl⟩ 56 encD (fun _=>none) (encR it L w.heap.size) w X1.out (fun i h1 h2=>by
  have h1':55≤i:=h1
  obtain rfl:i=55:=by omega
  exact ⟨HBX.out.ext ((Ext.refl _).drew),HRS.out.ext ((Ext.refl _).drew)⟩) ?_ ?_
 · intro T dd l U wz i o hE ho hl hd hT
   obtain ⟨t1,t2,tz⟩:=hE
   obtain ⟨⟨hbl,hbox⟩,hres⟩:BoxI it L w.heap.size wz∧ResB (w.heap.size+1) wz:=hT.facts 55 (by decide) (hT.past 55 (Nat.le_refl 55)) (fun c e=>by cases e)
   have HBOX:=Hi hbox
   have hg2:w.heap.size+2≤wz.heap.size:=hres.lt
   have hx:=hT.ext
   clear hbox
   match i,ho,hl,hd with
   | 0,ho,hl,hd =>
    obtain rfl:=Option.some.inj ho
    have v1:=eval_old (d:=dd) (hT.out 1 (by decide)) (by omega) t1
    refine tb_pure (v:=.pointer (some ⟨w.heap.size,0,none⟩)) hT ho hd rfl rfl (by decide) (by decide) ?_ rfl
    generalize Act.eval ⟨over T U,dd⟩=ev at *
    simp [execOp,v1,go_sem]
   | 1,ho,hl,hd =>
    obtain rfl:=Option.some.inj ho
    have f0:U 11=some (.pointer (some ⟨w.heap.size,0,none⟩)):=hT.facts 0 (by decide) (dep hd 0 (by kernel_rfl)) (fun c e=>by cases e)
    have v0:Act.eval ⟨over T U,dd⟩ (.tmp 11)=_:=eval_new (t:=T) (d:=dd) f0 (by show 11<T.size;omega)
    have hc:wz.cell? ⟨w.heap.size,0,none⟩=some (.int .i64 it.id):=HBOX.out 0 _ rfl
    refine tb_pure (v:=.int .i64 it.id) hT ho hd rfl rfl (by decide) (by decide) ?_ rfl
    generalize Act.eval ⟨over T U,dd⟩=ev at *
    simp [execOp,v0,go_sem,hc]
   | 2,ho,hl,hd =>
    obtain rfl:=Option.some.inj ho
    have f0:U 12=some (.int .i64 it.id):=hT.facts 1 (by decide) (dep hd 1 (by kernel_rfl)) (fun c e=>by cases e)
    have v0:Act.eval ⟨over T U,dd⟩ (.tmp 12)=_:=eval_new (t:=T) (d:=dd) f0 (by show 12<T.size;omega)
    refine tb_call (f:=51) (args:=#[.int .i64 1,.int .i64 it.id]) (encR_ext it L w.heap.size) hT ho hd rfl rfl (by decide) (by decide) ?_ ?_
    · exact exec_call2 rfl rfl rfl v0 EI.out
    · refine (int_to 1 it.id wz).mono ?_
      rintro e w' ⟨rfl,hb⟩
      exact ⟨_,rfl,hb,(none,0),rfl,KidsAt.nil _ _ _ _ _⟩
   | 3,ho,hl,hd =>
    obtain rfl:=Option.some.inj ho
    have v1:=eval_old (d:=dd) (hT.out 1 (by decide)) (by omega) t1
    refine tb_pure (v:=.pointer (some ⟨w.heap.size,1,none⟩)) hT ho hd rfl rfl (by decide) (by decide) ?_ rfl
    generalize Act.eval ⟨over T U,dd⟩=ev at *
    simp [execOp,v1,go_sem]
   | 4,ho,hl,hd =>
    obtain rfl:=Option.some.inj ho
    have f0:U 14=some (.pointer (some ⟨w.heap.size,1,none⟩)):=hT.facts 3 (by decide) (dep hd 3 (by kernel_rfl)) (fun c e=>by cases e)
    have v0:Act.eval ⟨over T U,dd⟩ (.tmp 14)=_:=eval_new (t:=T) (d:=dd) f0 (by show 14<T.size;omega)
    have hc:wz.cell? ⟨w.heap.size,1,none⟩=some (.int .i64 it.ver):=HBOX.out 1 _ rfl
    refine tb_pure (v:=.int .i64 it.ver) hT ho hd rfl rfl (by decide) (by decide) ?_ rfl
    generalize Act.eval ⟨over T U,dd⟩=ev at *
    simp [execOp,v0,go_sem,hc]
   | 5,ho,hl,hd =>
    obtain rfl:=Option.some.inj ho
    have f0:U 15=some (.int .i64 it.ver):=hT.facts 4 (by decide) (dep hd 4 (by kernel_rfl)) (fun c e=>by cases e)
    have v0:Act.eval ⟨over T U,dd⟩ (.tmp 15)=_:=eval_new (t:=T) (d:=dd) f0 (by show 15<T.size;omega)
    refine tb_call (f:=51) (args:=#[.int .i64 2,.int .i64 it.ver]) (encR_ext it L w.heap.size) hT ho hd rfl rfl (by decide) (by decide) ?_ ?_
    · exact exec_call2 rfl rfl rfl v0 EI.out
    · refine (int_to 2 it.ver wz).mono ?_
      rintro e w' ⟨rfl,hb⟩
      exact ⟨_,rfl,hb,(none,0),rfl,KidsAt.nil _ _ _ _ _⟩
   | 6,ho,hl,hd =>
    obtain rfl:=Option.some.inj ho
    have v1:=eval_old (d:=dd) (hT.out 1 (by decide)) (by omega) t1
    refine tb_pure (v:=.pointer (some ⟨w.heap.size,2,none⟩)) hT ho hd rfl rfl (by decide) (by decide) ?_ rfl
    generalize Act.eval ⟨over T U,dd⟩=ev at *
    simp [execOp,v1,go_sem]
   | 7,ho,hl,hd =>
    obtain rfl:=Option.some.inj ho
    have f0:U 17=some (.pointer (some ⟨w.heap.size,2,none⟩)):=hT.facts 6 (by decide) (dep hd 6 (by kernel_rfl)) (fun c e=>by cases e)
    have v0:Act.eval ⟨over T U,dd⟩ (.tmp 17)=_:=eval_new (t:=T) (d:=dd) f0 (by show 17<T.size;omega)
    have hc:wz.cell? ⟨w.heap.size,2,none⟩=some (.int .i64 it.kind):=HBOX.out 2 _ rfl
    refine tb_pure (v:=.int .i64 it.kind) hT ho hd rfl rfl (by decide) (by decide) ?_ rfl
    generalize Act.eval ⟨over T U,dd⟩=ev at *
    simp [execOp,v0,go_sem,hc]
   | 8,ho,hl,hd =>
    obtain rfl:=Option.some.inj ho
    have f0:U 18=some (.int .i64 it.kind):=hT.facts 7 (by decide) (dep hd 7 (by kernel_rfl)) (fun c e=>by cases e)
    have v0:Act.eval ⟨over T U,dd⟩ (.tmp 18)=_:=eval_new (t:=T) (d:=dd) f0 (by show 18<T.size;omega)
    refine tb_call (f:=51) (args:=#[.int .i64 3,.int .i64 it.kind]) (encR_ext it L w.heap.size) hT ho hd rfl rfl (by decide) (by decide) ?_ ?_
    · exact exec_call2 rfl rfl rfl v0 EI.out
    · refine (int_to 3 it.kind wz).mono ?_
      rintro e w' ⟨rfl,hb⟩
      exact ⟨_,rfl,hb,(none,0),rfl,KidsAt.nil _ _ _ _ _⟩
   | 9,ho,hl,hd =>
    obtain rfl:=Option.some.inj ho
    have v1:=eval_old (d:=dd) (hT.out 1 (by decide)) (by omega) t1
    refine tb_pure (v:=.pointer (some ⟨w.heap.size,3,none⟩)) hT ho hd rfl rfl (by decide) (by decide) ?_ rfl
    generalize Act.eval ⟨over T U,dd⟩=ev at *
    simp [execOp,v1,go_sem]
   | 10,ho,hl,hd =>
    obtain rfl:=Option.some.inj ho
    have f0:U 20=some (.pointer (some ⟨w.heap.size,3,none⟩)):=hT.facts 9 (by decide) (dep hd 9 (by kernel_rfl)) (fun c e=>by cases e)
    have v0:Act.eval ⟨over T U,dd⟩ (.tmp 20)=_:=eval_new (t:=T) (d:=dd) f0 (by show 20<T.size;omega)
    have hc:wz.cell? ⟨w.heap.size,3,none⟩=some (.string it.stem):=HBOX.out 3 _ rfl
    refine tb_pure (v:=.string it.stem) hT ho hd rfl rfl (by decide) (by decide) ?_ rfl
    generalize Act.eval ⟨over T U,dd⟩=ev at *
    simp [execOp,v0,go_sem,hc]
   | 11,ho,hl,hd =>
    obtain rfl:=Option.some.inj ho
    have f0:U 21=some (.string it.stem):=hT.facts 10 (by decide) (dep hd 10 (by kernel_rfl)) (fun c e=>by cases e)
    have v0:Act.eval ⟨over T U,dd⟩ (.tmp 21)=_:=eval_new (t:=T) (d:=dd) f0 (by show 21<T.size;omega)
    refine tb_call (f:=52) (args:=#[.int .i64 4,.string it.stem]) (encR_ext it L w.heap.size) hT ho hd rfl rfl (by decide) (by decide) ?_ ?_
    · exact exec_call2 rfl rfl rfl v0 ES.out
    · refine (string_to 4 it.stem wz).mono ?_
      rintro e w' ⟨rfl,hb⟩
      exact ⟨_,rfl,hb,(none,0),rfl,KidsAt.nil _ _ _ _ _⟩
   | 12,ho,hl,hd =>
    obtain rfl:=Option.some.inj ho
    have v1:=eval_old (d:=dd) (hT.out 1 (by decide)) (by omega) t1
    refine tb_pure (v:=.pointer (some ⟨w.heap.size,4,none⟩)) hT ho hd rfl rfl (by decide) (by decide) ?_ rfl
    generalize Act.eval ⟨over T U,dd⟩=ev at *
    simp [execOp,v1,go_sem]
   | 13,ho,hl,hd =>
    obtain rfl:=Option.some.inj ho
    have f0:U 23=some (.pointer (some ⟨w.heap.size,4,none⟩)):=hT.facts 12 (by decide) (dep hd 12 (by kernel_rfl)) (fun c e=>by cases e)
    have v0:Act.eval ⟨over T U,dd⟩ (.tmp 23)=_:=eval_new (t:=T) (d:=dd) f0 (by show 23<T.size;omega)
    have hc:wz.cell? ⟨w.heap.size,4,none⟩=some (.slice L.oA it.opts.length L.oc):=HBOX.out 4 _ rfl
    refine tb_pure (v:=.slice L.oA it.opts.length L.oc) hT ho hd rfl rfl (by decide) (by decide) ?_ rfl
    generalize Act.eval ⟨over T U,dd⟩=ev at *
    simp [execOp,v0,go_sem,hc]
   | 14,ho,hl,hd =>
    obtain rfl:=Option.some.inj ho
    have f0:U 24=some (.slice L.oA it.opts.length L.oc):=hT.facts 13 (by decide) (dep hd 13 (by kernel_rfl)) (fun c e=>by cases e)
    have v0:Act.eval ⟨over T U,dd⟩ (.tmp 24)=_:=eval_new (t:=T) (d:=dd) f0 (by show 24<T.size;omega)
    refine tb_call (f:=53) (args:=#[.int .i64 5,.slice L.oA it.opts.length L.oc]) (encR_ext it L w.heap.size) hT ho hd rfl rfl (by decide) (by decide) ?_ ?_
    · exact exec_call2 rfl rfl rfl v0 ET.out
    · refine (texts_any 5 L.oA L.oc it.opts wz (H.out.ext hx).o ho0).mono ?_
      rintro e w' ⟨⟨M,rfl,hM⟩,hb⟩
      exact ⟨_,rfl,hb,M,rfl,hM.lower hg2⟩
   | 15,ho,hl,hd =>
    obtain rfl:=Option.some.inj ho
    have v1:=eval_old (d:=dd) (hT.out 1 (by decide)) (by omega) t1
    refine tb_pure (v:=.pointer (some ⟨w.heap.size,5,none⟩)) hT ho hd rfl rfl (by decide) (by decide) ?_ rfl
    generalize Act.eval ⟨over T U,dd⟩=ev at *
    simp [execOp,v1,go_sem]
   | 16,ho,hl,hd =>
    obtain rfl:=Option.some.inj ho
    have f0:U 26=some (.pointer (some ⟨w.heap.size,5,none⟩)):=hT.facts 15 (by decide) (dep hd 15 (by kernel_rfl)) (fun c e=>by cases e)
    have v0:Act.eval ⟨over T U,dd⟩ (.tmp 26)=_:=eval_new (t:=T) (d:=dd) f0 (by show 26<T.size;omega)
    have hc:wz.cell? ⟨w.heap.size,5,none⟩=some (.slice L.cA it.chs.length L.cc):=HBOX.out 5 _ rfl
    refine tb_pure (v:=.slice L.cA it.chs.length L.cc) hT ho hd rfl rfl (by decide) (by decide) ?_ rfl
    generalize Act.eval ⟨over T U,dd⟩=ev at *
    simp [execOp,v0,go_sem,hc]
   | 17,ho,hl,hd =>
    obtain rfl:=Option.some.inj ho
    have f0:U 27=some (.slice L.cA it.chs.length L.cc):=hT.facts 16 (by decide) (dep hd 16 (by kernel_rfl)) (fun c e=>by cases e)
    have v0:Act.eval ⟨over T U,dd⟩ (.tmp 27)=_:=eval_new (t:=T) (d:=dd) f0 (by show 27<T.size;omega)
    refine tb_call (f:=54) (args:=#[.int .i64 6,.slice L.cA it.chs.length L.cc]) (encR_ext it L w.heap.size) hT ho hd rfl rfl (by decide) (by decide) ?_ ?_
    · exact exec_call2 rfl rfl rfl v0 EN.out
    · refine (numbers_any 6 L.cA L.cc it.chs wz (H.out.ext hx).c hc0).mono ?_
      rintro e w' ⟨⟨M,rfl,hM⟩,hb⟩
      exact ⟨_,rfl,hb,M,rfl,hM.lower hg2⟩
   | 18,ho,hl,hd =>
    obtain rfl:=Option.some.inj ho
    have v1:=eval_old (d:=dd) (hT.out 1 (by decide)) (by omega) t1
    refine tb_pure (v:=.pointer (some ⟨w.heap.size,6,none⟩)) hT ho hd rfl rfl (by decide) (by decide) ?_ rfl
    generalize Act.eval ⟨over T U,dd⟩=ev at *
    simp [execOp,v1,go_sem]
   | 19,ho,hl,hd =>
    obtain rfl:=Option.some.inj ho
    have f0:U 29=some (.pointer (some ⟨w.heap.size,6,none⟩)):=hT.facts 18 (by decide) (dep hd 18 (by kernel_rfl)) (fun c e=>by cases e)
    have v0:Act.eval ⟨over T U,dd⟩ (.tmp 29)=_:=eval_new (t:=T) (d:=dd) f0 (by show 29<T.size;omega)
    have hc:wz.cell? ⟨w.heap.size,6,none⟩=some (.int .i64 it.value):=HBOX.out 6 _ rfl
    refine tb_pure (v:=.int .i64 it.value) hT ho hd rfl rfl (by decide) (by decide) ?_ rfl
    generalize Act.eval ⟨over T U,dd⟩=ev at *
    simp [execOp,v0,go_sem,hc]
   | 20,ho,hl,hd =>
    obtain rfl:=Option.some.inj ho
    have f0:U 30=some (.int .i64 it.value):=hT.facts 19 (by decide) (dep hd 19 (by kernel_rfl)) (fun c e=>by cases e)
    have v0:Act.eval ⟨over T U,dd⟩ (.tmp 30)=_:=eval_new (t:=T) (d:=dd) f0 (by show 30<T.size;omega)
    refine tb_call (f:=51) (args:=#[.int .i64 7,.int .i64 it.value]) (encR_ext it L w.heap.size) hT ho hd rfl rfl (by decide) (by decide) ?_ ?_
    · exact exec_call2 rfl rfl rfl v0 EI.out
    · refine (int_to 7 it.value wz).mono ?_
      rintro e w' ⟨rfl,hb⟩
      exact ⟨_,rfl,hb,(none,0),rfl,KidsAt.nil _ _ _ _ _⟩
   | 21,ho,hl,hd =>
    obtain rfl:=Option.some.inj ho
    have v1:=eval_old (d:=dd) (hT.out 1 (by decide)) (by omega) t1
    refine tb_pure (v:=.pointer (some ⟨w.heap.size,7,none⟩)) hT ho hd rfl rfl (by decide) (by decide) ?_ rfl
    generalize Act.eval ⟨over T U,dd⟩=ev at *
    simp [execOp,v1,go_sem]
   | 22,ho,hl,hd =>
    obtain rfl:=Option.some.inj ho
    have f0:U 32=some (.pointer (some ⟨w.heap.size,7,none⟩)):=hT.facts 21 (by decide) (dep hd 21 (by kernel_rfl)) (fun c e=>by cases e)
    have v0:Act.eval ⟨over T U,dd⟩ (.tmp 32)=_:=eval_new (t:=T) (d:=dd) f0 (by show 32<T.size;omega)
    have hc:wz.cell? ⟨w.heap.size,7,none⟩=some (.int .i64 it.tol):=HBOX.out 7 _ rfl
    refine tb_pure (v:=.int .i64 it.tol) hT ho hd rfl rfl (by decide) (by decide) ?_ rfl
    generalize Act.eval ⟨over T U,dd⟩=ev at *
    simp [execOp,v0,go_sem,hc]
   | 23,ho,hl,hd =>
    obtain rfl:=Option.some.inj ho
    have f0:U 33=some (.int .i64 it.tol):=hT.facts 22 (by decide) (dep hd 22 (by kernel_rfl)) (fun c e=>by cases e)
    have v0:Act.eval ⟨over T U,dd⟩ (.tmp 33)=_:=eval_new (t:=T) (d:=dd) f0 (by show 33<T.size;omega)
    refine tb_call (f:=51) (args:=#[.int .i64 8,.int .i64 it.tol]) (encR_ext it L w.heap.size) hT ho hd rfl rfl (by decide) (by decide) ?_ ?_
    · exact exec_call2 rfl rfl rfl v0 EI.out
    · refine (int_to 8 it.tol wz).mono ?_
      rintro e w' ⟨rfl,hb⟩
      exact ⟨_,rfl,hb,(none,0),rfl,KidsAt.nil _ _ _ _ _⟩
   | 24,ho,hl,hd =>
    obtain rfl:=Option.some.inj ho
    have v1:=eval_old (d:=dd) (hT.out 1 (by decide)) (by omega) t1
    refine tb_pure (v:=.pointer (some ⟨w.heap.size,8,none⟩)) hT ho hd rfl rfl (by decide) (by decide) ?_ rfl
    generalize Act.eval ⟨over T U,dd⟩=ev at *
    simp [execOp,v1,go_sem]
   | 25,ho,hl,hd =>
    obtain rfl:=Option.some.inj ho
    have f0:U 35=some (.pointer (some ⟨w.heap.size,8,none⟩)):=hT.facts 24 (by decide) (dep hd 24 (by kernel_rfl)) (fun c e=>by cases e)
    have v0:Act.eval ⟨over T U,dd⟩ (.tmp 35)=_:=eval_new (t:=T) (d:=dd) f0 (by show 35<T.size;omega)
    have hc:wz.cell? ⟨w.heap.size,8,none⟩=some (.slice L.tA it.texts.length L.tc):=HBOX.out 8 _ rfl
    refine tb_pure (v:=.slice L.tA it.texts.length L.tc) hT ho hd rfl rfl (by decide) (by decide) ?_ rfl
    generalize Act.eval ⟨over T U,dd⟩=ev at *
    simp [execOp,v0,go_sem,hc]
   | 26,ho,hl,hd =>
    obtain rfl:=Option.some.inj ho
    have f0:U 36=some (.slice L.tA it.texts.length L.tc):=hT.facts 25 (by decide) (dep hd 25 (by kernel_rfl)) (fun c e=>by cases e)
    have v0:Act.eval ⟨over T U,dd⟩ (.tmp 36)=_:=eval_new (t:=T) (d:=dd) f0 (by show 36<T.size;omega)
    refine tb_call (f:=53) (args:=#[.int .i64 9,.slice L.tA it.texts.length L.tc]) (encR_ext it L w.heap.size) hT ho hd rfl rfl (by decide) (by decide) ?_ ?_
    · exact exec_call2 rfl rfl rfl v0 ET.out
    · refine (texts_any 9 L.tA L.tc it.texts wz (H.out.ext hx).t ht0).mono ?_
      rintro e w' ⟨⟨M,rfl,hM⟩,hb⟩
      exact ⟨_,rfl,hb,M,rfl,hM.lower hg2⟩
   | 27,ho,hl,hd =>
    obtain rfl:=Option.some.inj ho
    have v1:=eval_old (d:=dd) (hT.out 1 (by decide)) (by omega) t1
    refine tb_pure (v:=.pointer (some ⟨w.heap.size,9,none⟩)) hT ho hd rfl rfl (by decide) (by decide) ?_ rfl
    generalize Act.eval ⟨over T U,dd⟩=ev at *
    simp [execOp,v1,go_sem]
   | 28,ho,hl,hd =>
    obtain rfl:=Option.some.inj ho
    have f0:U 38=some (.pointer (some ⟨w.heap.size,9,none⟩)):=hT.facts 27 (by decide) (dep hd 27 (by kernel_rfl)) (fun c e=>by cases e)
    have v0:Act.eval ⟨over T U,dd⟩ (.tmp 38)=_:=eval_new (t:=T) (d:=dd) f0 (by show 38<T.size;omega)
    have hc:wz.cell? ⟨w.heap.size,9,none⟩=some (.int .i64 it.pts):=HBOX.out 9 _ rfl
    refine tb_pure (v:=.int .i64 it.pts) hT ho hd rfl rfl (by decide) (by decide) ?_ rfl
    generalize Act.eval ⟨over T U,dd⟩=ev at *
    simp [execOp,v0,go_sem,hc]
   | 29,ho,hl,hd =>
    obtain rfl:=Option.some.inj ho
    have f0:U 39=some (.int .i64 it.pts):=hT.facts 28 (by decide) (dep hd 28 (by kernel_rfl)) (fun c e=>by cases e)
    have v0:Act.eval ⟨over T U,dd⟩ (.tmp 39)=_:=eval_new (t:=T) (d:=dd) f0 (by show 39<T.size;omega)
    refine tb_call (f:=51) (args:=#[.int .i64 10,.int .i64 it.pts]) (encR_ext it L w.heap.size) hT ho hd rfl rfl (by decide) (by decide) ?_ ?_
    · exact exec_call2 rfl rfl rfl v0 EI.out
    · refine (int_to 10 it.pts wz).mono ?_
      rintro e w' ⟨rfl,hb⟩
      exact ⟨_,rfl,hb,(none,0),rfl,KidsAt.nil _ _ _ _ _⟩
   | 30,ho,hl,hd =>
    obtain rfl:=Option.some.inj ho
    have v1:=eval_old (d:=dd) (hT.out 1 (by decide)) (by omega) t1
    refine tb_pure (v:=.pointer (some ⟨w.heap.size,10,none⟩)) hT ho hd rfl rfl (by decide) (by decide) ?_ rfl
    generalize Act.eval ⟨over T U,dd⟩=ev at *
    simp [execOp,v1,go_sem]
   | 31,ho,hl,hd =>
    obtain rfl:=Option.some.inj ho
    have f0:U 41=some (.pointer (some ⟨w.heap.size,10,none⟩)):=hT.facts 30 (by decide) (dep hd 30 (by kernel_rfl)) (fun c e=>by cases e)
    have v0:Act.eval ⟨over T U,dd⟩ (.tmp 41)=_:=eval_new (t:=T) (d:=dd) f0 (by show 41<T.size;omega)
    have hc:wz.cell? ⟨w.heap.size,10,none⟩=some (.string it.cont):=HBOX.out 10 _ rfl
    refine tb_pure (v:=.string it.cont) hT ho hd rfl rfl (by decide) (by decide) ?_ rfl
    generalize Act.eval ⟨over T U,dd⟩=ev at *
    simp [execOp,v0,go_sem,hc]
   | 32,ho,hl,hd =>
    obtain rfl:=Option.some.inj ho
    have f0:U 42=some (.string it.cont):=hT.facts 31 (by decide) (dep hd 31 (by kernel_rfl)) (fun c e=>by cases e)
    have v0:Act.eval ⟨over T U,dd⟩ (.tmp 42)=_:=eval_new (t:=T) (d:=dd) f0 (by show 42<T.size;omega)
    refine tb_call (f:=52) (args:=#[.int .i64 11,.string it.cont]) (encR_ext it L w.heap.size) hT ho hd rfl rfl (by decide) (by decide) ?_ ?_
    · exact exec_call2 rfl rfl rfl v0 ES.out
    · refine (string_to 11 it.cont wz).mono ?_
      rintro e w' ⟨rfl,hb⟩
      exact ⟨_,rfl,hb,(none,0),rfl,KidsAt.nil _ _ _ _ _⟩
   | 33,ho,hl,hd =>
    obtain rfl:=Option.some.inj ho
    have v1:=eval_old (d:=dd) (hT.out 1 (by decide)) (by omega) t1
    refine tb_pure (v:=.pointer (some ⟨w.heap.size,11,none⟩)) hT ho hd rfl rfl (by decide) (by decide) ?_ rfl
    generalize Act.eval ⟨over T U,dd⟩=ev at *
    simp [execOp,v1,go_sem]
   | 34,ho,hl,hd =>
    obtain rfl:=Option.some.inj ho
    have f0:U 44=some (.pointer (some ⟨w.heap.size,11,none⟩)):=hT.facts 33 (by decide) (dep hd 33 (by kernel_rfl)) (fun c e=>by cases e)
    have v0:Act.eval ⟨over T U,dd⟩ (.tmp 44)=_:=eval_new (t:=T) (d:=dd) f0 (by show 44<T.size;omega)
    have hc:wz.cell? ⟨w.heap.size,11,none⟩=some (.int .i64 it.fam):=HBOX.out 11 _ rfl
    refine tb_pure (v:=.int .i64 it.fam) hT ho hd rfl rfl (by decide) (by decide) ?_ rfl
    generalize Act.eval ⟨over T U,dd⟩=ev at *
    simp [execOp,v0,go_sem,hc]
   | 35,ho,hl,hd =>
    obtain rfl:=Option.some.inj ho
    have f0:U 45=some (.int .i64 it.fam):=hT.facts 34 (by decide) (dep hd 34 (by kernel_rfl)) (fun c e=>by cases e)
    have v0:Act.eval ⟨over T U,dd⟩ (.tmp 45)=_:=eval_new (t:=T) (d:=dd) f0 (by show 45<T.size;omega)
    refine tb_call (f:=51) (args:=#[.int .i64 12,.int .i64 it.fam]) (encR_ext it L w.heap.size) hT ho hd rfl rfl (by decide) (by decide) ?_ ?_
    · exact exec_call2 rfl rfl rfl v0 EI.out
    · refine (int_to 12 it.fam wz).mono ?_
      rintro e w' ⟨rfl,hb⟩
      exact ⟨_,rfl,hb,(none,0),rfl,KidsAt.nil _ _ _ _ _⟩
   | 36,ho,hl,hd =>
    obtain rfl:=Option.some.inj ho
    have v1:=eval_old (d:=dd) (hT.out 1 (by decide)) (by omega) t1
    refine tb_pure (v:=.pointer (some ⟨w.heap.size,12,none⟩)) hT ho hd rfl rfl (by decide) (by decide) ?_ rfl
    generalize Act.eval ⟨over T U,dd⟩=ev at *
    simp [execOp,v1,go_sem]
   | 37,ho,hl,hd =>
    obtain rfl:=Option.some.inj ho
    have f0:U 47=some (.pointer (some ⟨w.heap.size,12,none⟩)):=hT.facts 36 (by decide) (dep hd 36 (by kernel_rfl)) (fun c e=>by cases e)
    have v0:Act.eval ⟨over T U,dd⟩ (.tmp 47)=_:=eval_new (t:=T) (d:=dd) f0 (by show 47<T.size;omega)
    have hc:wz.cell? ⟨w.heap.size,12,none⟩=some (.int .i64 it.set_):=HBOX.out 12 _ rfl
    refine tb_pure (v:=.int .i64 it.set_) hT ho hd rfl rfl (by decide) (by decide) ?_ rfl
    generalize Act.eval ⟨over T U,dd⟩=ev at *
    simp [execOp,v0,go_sem,hc]
   | 38,ho,hl,hd =>
    obtain rfl:=Option.some.inj ho
    have f0:U 48=some (.int .i64 it.set_):=hT.facts 37 (by decide) (dep hd 37 (by kernel_rfl)) (fun c e=>by cases e)
    have v0:Act.eval ⟨over T U,dd⟩ (.tmp 48)=_:=eval_new (t:=T) (d:=dd) f0 (by show 48<T.size;omega)
    refine tb_call (f:=51) (args:=#[.int .i64 13,.int .i64 it.set_]) (encR_ext it L w.heap.size) hT ho hd rfl rfl (by decide) (by decide) ?_ ?_
    · exact exec_call2 rfl rfl rfl v0 EI.out
    · refine (int_to 13 it.set_ wz).mono ?_
      rintro e w' ⟨rfl,hb⟩
      exact ⟨_,rfl,hb,(none,0),rfl,KidsAt.nil _ _ _ _ _⟩
   | 39,ho,hl,hd =>
    obtain rfl:=Option.some.inj ho
    have v1:=eval_old (d:=dd) (hT.out 1 (by decide)) (by omega) t1
    refine tb_pure (v:=.pointer (some ⟨w.heap.size,13,none⟩)) hT ho hd rfl rfl (by decide) (by decide) ?_ rfl
    generalize Act.eval ⟨over T U,dd⟩=ev at *
    simp [execOp,v1,go_sem]
   | 40,ho,hl,hd =>
    obtain rfl:=Option.some.inj ho
    have f0:U 50=some (.pointer (some ⟨w.heap.size,13,none⟩)):=hT.facts 39 (by decide) (dep hd 39 (by kernel_rfl)) (fun c e=>by cases e)
    have v0:Act.eval ⟨over T U,dd⟩ (.tmp 50)=_:=eval_new (t:=T) (d:=dd) f0 (by show 50<T.size;omega)
    have hc:wz.cell? ⟨w.heap.size,13,none⟩=some (.int .i64 it.wrd):=HBOX.out 13 _ rfl
    refine tb_pure (v:=.int .i64 it.wrd) hT ho hd rfl rfl (by decide) (by decide) ?_ rfl
    generalize Act.eval ⟨over T U,dd⟩=ev at *
    simp [execOp,v0,go_sem,hc]
   | 41,ho,hl,hd =>
    obtain rfl:=Option.some.inj ho
    have f0:U 51=some (.int .i64 it.wrd):=hT.facts 40 (by decide) (dep hd 40 (by kernel_rfl)) (fun c e=>by cases e)
    have v0:Act.eval ⟨over T U,dd⟩ (.tmp 51)=_:=eval_new (t:=T) (d:=dd) f0 (by show 51<T.size;omega)
    refine tb_call (f:=51) (args:=#[.int .i64 14,.int .i64 it.wrd]) (encR_ext it L w.heap.size) hT ho hd rfl rfl (by decide) (by decide) ?_ ?_
    · exact exec_call2 rfl rfl rfl v0 EI.out
    · refine (int_to 14 it.wrd wz).mono ?_
      rintro e w' ⟨rfl,hb⟩
      exact ⟨_,rfl,hb,(none,0),rfl,KidsAt.nil _ _ _ _ _⟩
   | 42,ho,hl,hd =>
    obtain rfl:=Option.some.inj ho
    have v1:=eval_old (d:=dd) (hT.out 1 (by decide)) (by omega) t1
    refine tb_pure (v:=.pointer (some ⟨w.heap.size,14,none⟩)) hT ho hd rfl rfl (by decide) (by decide) ?_ rfl
    generalize Act.eval ⟨over T U,dd⟩=ev at *
    simp [execOp,v1,go_sem]
   | 43,ho,hl,hd =>
    obtain rfl:=Option.some.inj ho
    have f0:U 53=some (.pointer (some ⟨w.heap.size,14,none⟩)):=hT.facts 42 (by decide) (dep hd 42 (by kernel_rfl)) (fun c e=>by cases e)
    have v0:Act.eval ⟨over T U,dd⟩ (.tmp 53)=_:=eval_new (t:=T) (d:=dd) f0 (by show 53<T.size;omega)
    have hc:wz.cell? ⟨w.heap.size,14,none⟩=some (.int .i64 it.sec):=HBOX.out 14 _ rfl
    refine tb_pure (v:=.int .i64 it.sec) hT ho hd rfl rfl (by decide) (by decide) ?_ rfl
    generalize Act.eval ⟨over T U,dd⟩=ev at *
    simp [execOp,v0,go_sem,hc]
   | 44,ho,hl,hd =>
    obtain rfl:=Option.some.inj ho
    have f0:U 54=some (.int .i64 it.sec):=hT.facts 43 (by decide) (dep hd 43 (by kernel_rfl)) (fun c e=>by cases e)
    have v0:Act.eval ⟨over T U,dd⟩ (.tmp 54)=_:=eval_new (t:=T) (d:=dd) f0 (by show 54<T.size;omega)
    refine tb_call (f:=51) (args:=#[.int .i64 15,.int .i64 it.sec]) (encR_ext it L w.heap.size) hT ho hd rfl rfl (by decide) (by decide) ?_ ?_
    · exact exec_call2 rfl rfl rfl v0 EI.out
    · refine (int_to 15 it.sec wz).mono ?_
      rintro e w' ⟨rfl,hb⟩
      exact ⟨_,rfl,hb,(none,0),rfl,KidsAt.nil _ _ _ _ _⟩
   | 45,ho,hl,hd =>
    obtain rfl:=Option.some.inj ho
    have v1:=eval_old (d:=dd) (hT.out 1 (by decide)) (by omega) t1
    refine tb_pure (v:=.pointer (some ⟨w.heap.size,15,none⟩)) hT ho hd rfl rfl (by decide) (by decide) ?_ rfl
    generalize Act.eval ⟨over T U,dd⟩=ev at *
    simp [execOp,v1,go_sem]
   | 46,ho,hl,hd =>
    obtain rfl:=Option.some.inj ho
    have f0:U 56=some (.pointer (some ⟨w.heap.size,15,none⟩)):=hT.facts 45 (by decide) (dep hd 45 (by kernel_rfl)) (fun c e=>by cases e)
    have v0:Act.eval ⟨over T U,dd⟩ (.tmp 56)=_:=eval_new (t:=T) (d:=dd) f0 (by show 56<T.size;omega)
    have hc:wz.cell? ⟨w.heap.size,15,none⟩=some (.slice L.sA it.assets.length L.sc):=HBOX.out 15 _ rfl
    refine tb_pure (v:=.slice L.sA it.assets.length L.sc) hT ho hd rfl rfl (by decide) (by decide) ?_ rfl
    generalize Act.eval ⟨over T U,dd⟩=ev at *
    simp [execOp,v0,go_sem,hc]
   | 47,ho,hl,hd =>
    obtain rfl:=Option.some.inj ho
    have f0:U 57=some (.slice L.sA it.assets.length L.sc):=hT.facts 46 (by decide) (dep hd 46 (by kernel_rfl)) (fun c e=>by cases e)
    have v0:Act.eval ⟨over T U,dd⟩ (.tmp 57)=_:=eval_new (t:=T) (d:=dd) f0 (by show 57<T.size;omega)
    refine tb_call (f:=54) (args:=#[.int .i64 16,.slice L.sA it.assets.length L.sc]) (encR_ext it L w.heap.size) hT ho hd rfl rfl (by decide) (by decide) ?_ ?_
    · exact exec_call2 rfl rfl rfl v0 EN.out
    · refine (numbers_any 16 L.sA L.sc it.assets wz (H.out.ext hx).s hs0).mono ?_
      rintro e w' ⟨⟨M,rfl,hM⟩,hb⟩
      exact ⟨_,rfl,hb,M,rfl,hM.lower hg2⟩
   | 48,ho,hl,hd =>
    obtain rfl:=Option.some.inj ho
    have v1:=eval_old (d:=dd) (hT.out 1 (by decide)) (by omega) t1
    refine tb_pure (v:=.pointer (some ⟨w.heap.size,16,none⟩)) hT ho hd rfl rfl (by decide) (by decide) ?_ rfl
    generalize Act.eval ⟨over T U,dd⟩=ev at *
    simp [execOp,v1,go_sem]
   | 49,ho,hl,hd =>
    obtain rfl:=Option.some.inj ho
    have f0:U 59=some (.pointer (some ⟨w.heap.size,16,none⟩)):=hT.facts 48 (by decide) (dep hd 48 (by kernel_rfl)) (fun c e=>by cases e)
    have v0:Act.eval ⟨over T U,dd⟩ (.tmp 59)=_:=eval_new (t:=T) (d:=dd) f0 (by show 59<T.size;omega)
    have hc:wz.cell? ⟨w.heap.size,16,none⟩=some (.int .i64 it.rub):=HBOX.out 16 _ rfl
    refine tb_pure (v:=.int .i64 it.rub) hT ho hd rfl rfl (by decide) (by decide) ?_ rfl
    generalize Act.eval ⟨over T U,dd⟩=ev at *
    simp [execOp,v0,go_sem,hc]
   | 50,ho,hl,hd =>
    obtain rfl:=Option.some.inj ho
    have f0:U 60=some (.int .i64 it.rub):=hT.facts 49 (by decide) (dep hd 49 (by kernel_rfl)) (fun c e=>by cases e)
    have v0:Act.eval ⟨over T U,dd⟩ (.tmp 60)=_:=eval_new (t:=T) (d:=dd) f0 (by show 60<T.size;omega)
    refine tb_call (f:=51) (args:=#[.int .i64 17,.int .i64 it.rub]) (encR_ext it L w.heap.size) hT ho hd rfl rfl (by decide) (by decide) ?_ ?_
    · exact exec_call2 rfl rfl rfl v0 EI.out
    · refine (int_to 17 it.rub wz).mono ?_
      rintro e w' ⟨rfl,hb⟩
      exact ⟨_,rfl,hb,(none,0),rfl,KidsAt.nil _ _ _ _ _⟩
   | 51,ho,hl,hd =>
    obtain rfl:=Option.some.inj ho
    obtain ⟨M0,f0,k0⟩:∃ M:Option Addr×Nat,U 13=some (nda (.mk 1 1 it.id ⟨#[]⟩ []) M)∧KidsAt 1000 (w.heap.size+2) 1 wz M (Nd.kids (.mk 1 1 it.id ⟨#[]⟩ [])):=hT.facts 2 (by decide) (dep hd 2 (by kernel_rfl)) (fun c e=>by cases e)
    have v0:Act.eval ⟨over T U,dd⟩ (.tmp 13)=.agg #[.int .i64 1,.int .i64 1,.int .i64 it.id,.string ⟨#[]⟩,.slice M0.1 0 M0.2]:=eval_new (t:=T) (d:=dd) f0 (by show 13<T.size;omega)
    obtain ⟨M1,f1,k1⟩:∃ M:Option Addr×Nat,U 16=some (nda (.mk 2 1 it.ver ⟨#[]⟩ []) M)∧KidsAt 1000 (w.heap.size+2) 1 wz M (Nd.kids (.mk 2 1 it.ver ⟨#[]⟩ [])):=hT.facts 5 (by decide) (dep hd 5 (by kernel_rfl)) (fun c e=>by cases e)
    have v1:Act.eval ⟨over T U,dd⟩ (.tmp 16)=.agg #[.int .i64 2,.int .i64 1,.int .i64 it.ver,.string ⟨#[]⟩,.slice M1.1 0 M1.2]:=eval_new (t:=T) (d:=dd) f1 (by show 16<T.size;omega)
    obtain ⟨M2,f2,k2⟩:∃ M:Option Addr×Nat,U 19=some (nda (.mk 3 1 it.kind ⟨#[]⟩ []) M)∧KidsAt 1000 (w.heap.size+2) 1 wz M (Nd.kids (.mk 3 1 it.kind ⟨#[]⟩ [])):=hT.facts 8 (by decide) (dep hd 8 (by kernel_rfl)) (fun c e=>by cases e)
    have v2:Act.eval ⟨over T U,dd⟩ (.tmp 19)=.agg #[.int .i64 3,.int .i64 1,.int .i64 it.kind,.string ⟨#[]⟩,.slice M2.1 0 M2.2]:=eval_new (t:=T) (d:=dd) f2 (by show 19<T.size;omega)
    obtain ⟨M3,f3,k3⟩:∃ M:Option Addr×Nat,U 22=some (nda (.mk 4 2 0 it.stem []) M)∧KidsAt 1000 (w.heap.size+2) 1 wz M (Nd.kids (.mk 4 2 0 it.stem [])):=hT.facts 11 (by decide) (dep hd 11 (by kernel_rfl)) (fun c e=>by cases e)
    have v3:Act.eval ⟨over T U,dd⟩ (.tmp 22)=.agg #[.int .i64 4,.int .i64 2,.int .i64 0,.string it.stem,.slice M3.1 0 M3.2]:=eval_new (t:=T) (d:=dd) f3 (by show 22<T.size;omega)
    obtain ⟨M4,f4,k4⟩:∃ M:Option Addr×Nat,U 25=some (nda (.mk 5 3 0 ⟨#[]⟩ (it.opts.map leafS)) M)∧KidsAt 1000 (w.heap.size+2) 1 wz M (Nd.kids (.mk 5 3 0 ⟨#[]⟩ (it.opts.map leafS))):=hT.facts 14 (by decide) (dep hd 14 (by kernel_rfl)) (fun c e=>by cases e)
    have v4:Act.eval ⟨over T U,dd⟩ (.tmp 25)=.agg #[.int .i64 5,.int .i64 3,.int .i64 0,.string ⟨#[]⟩,.slice M4.1 (it.opts.map leafS).length M4.2]:=eval_new (t:=T) (d:=dd) f4 (by show 25<T.size;omega)
    obtain ⟨M5,f5,k5⟩:∃ M:Option Addr×Nat,U 28=some (nda (.mk 6 3 0 ⟨#[]⟩ (it.chs.map leafI)) M)∧KidsAt 1000 (w.heap.size+2) 1 wz M (Nd.kids (.mk 6 3 0 ⟨#[]⟩ (it.chs.map leafI))):=hT.facts 17 (by decide) (dep hd 17 (by kernel_rfl)) (fun c e=>by cases e)
    have v5:Act.eval ⟨over T U,dd⟩ (.tmp 28)=.agg #[.int .i64 6,.int .i64 3,.int .i64 0,.string ⟨#[]⟩,.slice M5.1 (it.chs.map leafI).length M5.2]:=eval_new (t:=T) (d:=dd) f5 (by show 28<T.size;omega)
    obtain ⟨M6,f6,k6⟩:∃ M:Option Addr×Nat,U 31=some (nda (.mk 7 1 it.value ⟨#[]⟩ []) M)∧KidsAt 1000 (w.heap.size+2) 1 wz M (Nd.kids (.mk 7 1 it.value ⟨#[]⟩ [])):=hT.facts 20 (by decide) (dep hd 20 (by kernel_rfl)) (fun c e=>by cases e)
    have v6:Act.eval ⟨over T U,dd⟩ (.tmp 31)=.agg #[.int .i64 7,.int .i64 1,.int .i64 it.value,.string ⟨#[]⟩,.slice M6.1 0 M6.2]:=eval_new (t:=T) (d:=dd) f6 (by show 31<T.size;omega)
    obtain ⟨M7,f7,k7⟩:∃ M:Option Addr×Nat,U 34=some (nda (.mk 8 1 it.tol ⟨#[]⟩ []) M)∧KidsAt 1000 (w.heap.size+2) 1 wz M (Nd.kids (.mk 8 1 it.tol ⟨#[]⟩ [])):=hT.facts 23 (by decide) (dep hd 23 (by kernel_rfl)) (fun c e=>by cases e)
    have v7:Act.eval ⟨over T U,dd⟩ (.tmp 34)=.agg #[.int .i64 8,.int .i64 1,.int .i64 it.tol,.string ⟨#[]⟩,.slice M7.1 0 M7.2]:=eval_new (t:=T) (d:=dd) f7 (by show 34<T.size;omega)
    obtain ⟨M8,f8,k8⟩:∃ M:Option Addr×Nat,U 37=some (nda (.mk 9 3 0 ⟨#[]⟩ (it.texts.map leafS)) M)∧KidsAt 1000 (w.heap.size+2) 1 wz M (Nd.kids (.mk 9 3 0 ⟨#[]⟩ (it.texts.map leafS))):=hT.facts 26 (by decide) (dep hd 26 (by kernel_rfl)) (fun c e=>by cases e)
    have v8:Act.eval ⟨over T U,dd⟩ (.tmp 37)=.agg #[.int .i64 9,.int .i64 3,.int .i64 0,.string ⟨#[]⟩,.slice M8.1 (it.texts.map leafS).length M8.2]:=eval_new (t:=T) (d:=dd) f8 (by show 37<T.size;omega)
    obtain ⟨M9,f9,k9⟩:∃ M:Option Addr×Nat,U 40=some (nda (.mk 10 1 it.pts ⟨#[]⟩ []) M)∧KidsAt 1000 (w.heap.size+2) 1 wz M (Nd.kids (.mk 10 1 it.pts ⟨#[]⟩ [])):=hT.facts 29 (by decide) (dep hd 29 (by kernel_rfl)) (fun c e=>by cases e)
    have v9:Act.eval ⟨over T U,dd⟩ (.tmp 40)=.agg #[.int .i64 10,.int .i64 1,.int .i64 it.pts,.string ⟨#[]⟩,.slice M9.1 0 M9.2]:=eval_new (t:=T) (d:=dd) f9 (by show 40<T.size;omega)
    obtain ⟨M10,f10,k10⟩:∃ M:Option Addr×Nat,U 43=some (nda (.mk 11 2 0 it.cont []) M)∧KidsAt 1000 (w.heap.size+2) 1 wz M (Nd.kids (.mk 11 2 0 it.cont [])):=hT.facts 32 (by decide) (dep hd 32 (by kernel_rfl)) (fun c e=>by cases e)
    have v10:Act.eval ⟨over T U,dd⟩ (.tmp 43)=.agg #[.int .i64 11,.int .i64 2,.int .i64 0,.string it.cont,.slice M10.1 0 M10.2]:=eval_new (t:=T) (d:=dd) f10 (by show 43<T.size;omega)
    obtain ⟨M11,f11,k11⟩:∃ M:Option Addr×Nat,U 46=some (nda (.mk 12 1 it.fam ⟨#[]⟩ []) M)∧KidsAt 1000 (w.heap.size+2) 1 wz M (Nd.kids (.mk 12 1 it.fam ⟨#[]⟩ [])):=hT.facts 35 (by decide) (dep hd 35 (by kernel_rfl)) (fun c e=>by cases e)
    have v11:Act.eval ⟨over T U,dd⟩ (.tmp 46)=.agg #[.int .i64 12,.int .i64 1,.int .i64 it.fam,.string ⟨#[]⟩,.slice M11.1 0 M11.2]:=eval_new (t:=T) (d:=dd) f11 (by show 46<T.size;omega)
    obtain ⟨M12,f12,k12⟩:∃ M:Option Addr×Nat,U 49=some (nda (.mk 13 1 it.set_ ⟨#[]⟩ []) M)∧KidsAt 1000 (w.heap.size+2) 1 wz M (Nd.kids (.mk 13 1 it.set_ ⟨#[]⟩ [])):=hT.facts 38 (by decide) (dep hd 38 (by kernel_rfl)) (fun c e=>by cases e)
    have v12:Act.eval ⟨over T U,dd⟩ (.tmp 49)=.agg #[.int .i64 13,.int .i64 1,.int .i64 it.set_,.string ⟨#[]⟩,.slice M12.1 0 M12.2]:=eval_new (t:=T) (d:=dd) f12 (by show 49<T.size;omega)
    obtain ⟨M13,f13,k13⟩:∃ M:Option Addr×Nat,U 52=some (nda (.mk 14 1 it.wrd ⟨#[]⟩ []) M)∧KidsAt 1000 (w.heap.size+2) 1 wz M (Nd.kids (.mk 14 1 it.wrd ⟨#[]⟩ [])):=hT.facts 41 (by decide) (dep hd 41 (by kernel_rfl)) (fun c e=>by cases e)
    have v13:Act.eval ⟨over T U,dd⟩ (.tmp 52)=.agg #[.int .i64 14,.int .i64 1,.int .i64 it.wrd,.string ⟨#[]⟩,.slice M13.1 0 M13.2]:=eval_new (t:=T) (d:=dd) f13 (by show 52<T.size;omega)
    obtain ⟨M14,f14,k14⟩:∃ M:Option Addr×Nat,U 55=some (nda (.mk 15 1 it.sec ⟨#[]⟩ []) M)∧KidsAt 1000 (w.heap.size+2) 1 wz M (Nd.kids (.mk 15 1 it.sec ⟨#[]⟩ [])):=hT.facts 44 (by decide) (dep hd 44 (by kernel_rfl)) (fun c e=>by cases e)
    have v14:Act.eval ⟨over T U,dd⟩ (.tmp 55)=.agg #[.int .i64 15,.int .i64 1,.int .i64 it.sec,.string ⟨#[]⟩,.slice M14.1 0 M14.2]:=eval_new (t:=T) (d:=dd) f14 (by show 55<T.size;omega)
    obtain ⟨M15,f15,k15⟩:∃ M:Option Addr×Nat,U 58=some (nda (.mk 16 3 0 ⟨#[]⟩ (it.assets.map leafI)) M)∧KidsAt 1000 (w.heap.size+2) 1 wz M (Nd.kids (.mk 16 3 0 ⟨#[]⟩ (it.assets.map leafI))):=hT.facts 47 (by decide) (dep hd 47 (by kernel_rfl)) (fun c e=>by cases e)
    have v15:Act.eval ⟨over T U,dd⟩ (.tmp 58)=.agg #[.int .i64 16,.int .i64 3,.int .i64 0,.string ⟨#[]⟩,.slice M15.1 (it.assets.map leafI).length M15.2]:=eval_new (t:=T) (d:=dd) f15 (by show 58<T.size;omega)
    obtain ⟨M16,f16,k16⟩:∃ M:Option Addr×Nat,U 61=some (nda (.mk 17 1 it.rub ⟨#[]⟩ []) M)∧KidsAt 1000 (w.heap.size+2) 1 wz M (Nd.kids (.mk 17 1 it.rub ⟨#[]⟩ [])):=hT.facts 50 (by decide) (dep hd 50 (by kernel_rfl)) (fun c e=>by cases e)
    have v16:Act.eval ⟨over T U,dd⟩ (.tmp 61)=.agg #[.int .i64 17,.int .i64 1,.int .i64 it.rub,.string ⟨#[]⟩,.slice M16.1 0 M16.2]:=eval_new (t:=T) (d:=dd) f16 (by show 61<T.size;omega)
    have hK:KidsAt 1000 (w.heap.size+2) 2 (wz.alloc (.cells #[.int .i64 1,.int .i64 1,.int .i64 it.id,.string ⟨#[]⟩,.slice M0.1 0 M0.2,.int .i64 2,.int .i64 1,.int .i64 it.ver,.string ⟨#[]⟩,.slice M1.1 0 M1.2,.int .i64 3,.int .i64 1,.int .i64 it.kind,.string ⟨#[]⟩,.slice M2.1 0 M2.2,.int .i64 4,.int .i64 2,.int .i64 0,.string it.stem,.slice M3.1 0 M3.2,.int .i64 5,.int .i64 3,.int .i64 0,.string ⟨#[]⟩,.slice M4.1 (it.opts.map leafS).length M4.2,.int .i64 6,.int .i64 3,.int .i64 0,.string ⟨#[]⟩,.slice M5.1 (it.chs.map leafI).length M5.2,.int .i64 7,.int .i64 1,.int .i64 it.value,.string ⟨#[]⟩,.slice M6.1 0 M6.2,.int .i64 8,.int .i64 1,.int .i64 it.tol,.string ⟨#[]⟩,.slice M7.1 0 M7.2,.int .i64 9,.int .i64 3,.int .i64 0,.string ⟨#[]⟩,.slice M8.1 (it.texts.map leafS).length M8.2,.int .i64 10,.int .i64 1,.int .i64 it.pts,.string ⟨#[]⟩,.slice M9.1 0 M9.2,.int .i64 11,.int .i64 2,.int .i64 0,.string it.cont,.slice M10.1 0 M10.2,.int .i64 12,.int .i64 1,.int .i64 it.fam,.string ⟨#[]⟩,.slice M11.1 0 M11.2,.int .i64 13,.int .i64 1,.int .i64 it.set_,.string ⟨#[]⟩,.slice M12.1 0 M12.2,.int .i64 14,.int .i64 1,.int .i64 it.wrd,.string ⟨#[]⟩,.slice M13.1 0 M13.2,.int .i64 15,.int .i64 1,.int .i64 it.sec,.string ⟨#[]⟩,.slice M14.1 0 M14.2,.int .i64 16,.int .i64 3,.int .i64 0,.string ⟨#[]⟩,.slice M15.1 (it.assets.map leafI).length M15.2,.int .i64 17,.int .i64 1,.int .i64 it.rub,.string ⟨#[]⟩,.slice M16.1 0 M16.2] 52)) (some ⟨wz.heap.size,0,none⟩,17) (flds it):=kids_block (ks:=flds it) (Ms:=[M0,M1,M2,M3,M4,M5,M6,M7,M8,M9,M10,M11,M12,M13,M14,M15,M16]) 52 rfl (kids_all17 it _ _ k0 k1 k2 k3 k4 k5 k6 k7 k8 k9 k10 k11 k12 k13 k14 k15 k16) (by show 17≤1000;omega) (by show 17≤maxLen;unfold maxLen;omega) hg2
    refine tb_ext (v:=.slice (some ⟨wz.heap.size,0,none⟩) 17 17) (w':=wz.alloc (.cells #[.int .i64 1,.int .i64 1,.int .i64 it.id,.string ⟨#[]⟩,.slice M0.1 0 M0.2,.int .i64 2,.int .i64 1,.int .i64 it.ver,.string ⟨#[]⟩,.slice M1.1 0 M1.2,.int .i64 3,.int .i64 1,.int .i64 it.kind,.string ⟨#[]⟩,.slice M2.1 0 M2.2,.int .i64 4,.int .i64 2,.int .i64 0,.string it.stem,.slice M3.1 0 M3.2,.int .i64 5,.int .i64 3,.int .i64 0,.string ⟨#[]⟩,.slice M4.1 (it.opts.map leafS).length M4.2,.int .i64 6,.int .i64 3,.int .i64 0,.string ⟨#[]⟩,.slice M5.1 (it.chs.map leafI).length M5.2,.int .i64 7,.int .i64 1,.int .i64 it.value,.string ⟨#[]⟩,.slice M6.1 0 M6.2,.int .i64 8,.int .i64 1,.int .i64 it.tol,.string ⟨#[]⟩,.slice M7.1 0 M7.2,.int .i64 9,.int .i64 3,.int .i64 0,.string ⟨#[]⟩,.slice M8.1 (it.texts.map leafS).length M8.2,.int .i64 10,.int .i64 1,.int .i64 it.pts,.string ⟨#[]⟩,.slice M9.1 0 M9.2,.int .i64 11,.int .i64 2,.int .i64 0,.string it.cont,.slice M10.1 0 M10.2,.int .i64 12,.int .i64 1,.int .i64 it.fam,.string ⟨#[]⟩,.slice M11.1 0 M11.2,.int .i64 13,.int .i64 1,.int .i64 it.set_,.string ⟨#[]⟩,.slice M12.1 0 M12.2,.int .i64 14,.int .i64 1,.int .i64 it.wrd,.string ⟨#[]⟩,.slice M13.1 0 M13.2,.int .i64 15,.int .i64 1,.int .i64 it.sec,.string ⟨#[]⟩,.slice M14.1 0 M14.2,.int .i64 16,.int .i64 3,.int .i64 0,.string ⟨#[]⟩,.slice M15.1 (it.assets.map leafI).length M15.2,.int .i64 17,.int .i64 1,.int .i64 it.rub,.string ⟨#[]⟩,.slice M16.1 0 M16.2] 52)) (encR_ext it L w.heap.size) hT ho hd rfl rfl (by decide) (by decide) ?_ ((Ext.refl _).alloc _) ⟨wz.heap.size,rfl,hK⟩
    clear hK f0 f1 f2 f3 f4 f5 f6 f7 f8 f9 f10 f11 f12 f13 f14 f15 f16 k0 k1 k2 k3 k4 k5 k6 k7 k8 k9 k10 k11 k12 k13 k14 k15 k16
    generalize Act.eval ⟨over T U,dd⟩=ev at *
    simp [execOp,v0,v1,v2,v3,v4,v5,v6,v7,v8,v9,v10,v11,v12,v13,v14,v15,v16,go_sem]
   | 52,ho,hl,hd =>
    obtain rfl:=Option.some.inj ho
    obtain ⟨q,f0,hK⟩:∃ q:Nat,U 62=some (.slice (some ⟨q,0,none⟩) 17 17)∧KidsAt 1000 (w.heap.size+2) 2 wz (some ⟨q,0,none⟩,17) (flds it):=hT.facts 51 (by decide) (dep hd 51 (by kernel_rfl)) (fun c e=>by cases e)
    have v0:Act.eval ⟨over T U,dd⟩ (.tmp 62)=_:=eval_new (t:=T) (d:=dd) f0 (by show 62<T.size;omega)
    refine tb_call (f:=25) (args:=#[.int .i64 14,.slice (some ⟨q,0,none⟩) 17 17]) (encR_ext it L w.heap.size) hT ho hd rfl rfl (by decide) (by decide) ?_ ?_
    · exact exec_call2 rfl rfl rfl v0 EL.out
    · refine (list_to 1000 (by omega) 2 14 (some ⟨q,0,none⟩) 17 (flds it) rfl wz (hK.lower (Nat.zero_le _))).mono ?_
      rintro e w' ⟨⟨M,rfl,hM⟩,hb⟩
      exact ⟨_,rfl,hb,M,rfl,hM.lower hg2⟩
   | 53,ho,hl,hd =>
    obtain rfl:=Option.some.inj ho
    obtain ⟨M,f0,hK⟩:∃ M:Option Addr×Nat,U 63=some (nda (tree it) M)∧KidsAt 1000 (w.heap.size+2) 2 wz M (tree it).kids:=hT.facts 52 (by decide) (dep hd 52 (by kernel_rfl)) (fun c e=>by cases e)
    have v0:Act.eval ⟨over T U,dd⟩ (.tmp 63)=.agg #[.int .i64 14,.int .i64 3,.int .i64 0,.string ⟨#[]⟩,.slice M.1 17 M.2]:=eval_new (t:=T) (d:=dd) f0 (by show 63<T.size;omega)
    have v2:=eval_old (d:=dd) (hT.out 2 (by decide)) (by omega) t2
    obtain ⟨c0,hc0'⟩:=hres.cell (i:=0) (by omega)
    obtain ⟨c1,hc1'⟩:=hres.cell (i:=1) (by omega)
    obtain ⟨c2,hc2'⟩:=hres.cell (i:=2) (by omega)
    obtain ⟨c3,hc3'⟩:=hres.cell (i:=3) (by omega)
    obtain ⟨c4,hc4'⟩:=hres.cell (i:=4) (by omega)
    have hf0:=hres.free 0
    have hf1:=hres.free 1
    have hf2:=hres.free 2
    have hf3:=hres.free 3
    have hf4:=hres.free 4
    have hgl:w.heap.size≤w.heap.size+1:=Nat.le_succ _
    refine tb_store (w':=((((wz.setCell ⟨w.heap.size+1,0,none⟩ (.int .i64 14)).setCell ⟨w.heap.size+1,1,none⟩ (.int .i64 3)).setCell ⟨w.heap.size+1,2,none⟩ (.int .i64 0)).setCell ⟨w.heap.size+1,3,none⟩ (.string ⟨#[]⟩)).setCell ⟨w.heap.size+1,4,none⟩ (.slice M.1 17 M.2)) hT ho hd rfl rfl ?_ (ext_cells5 hx 0 1 2 3 4 _ _ _ _ _ (w.heap.size+1) hgl) ⟨M,block_set5 hres _ _ _ _ _,kids_cells5 (g:=w.heap.size+1) hK 0 1 2 3 4 _ _ _ _ _ (Nat.lt_succ_self _)⟩ ?_
    · generalize Act.eval ⟨over T U,dd⟩=ev at *
      simp [execOp,v0,v2,go_sem,hc0',hc1',hc2',hc3',hc4',hf0,hf1,hf2,hf3,hf4]
    · intro j hj hji hlj hcj hR
      exact encR_set it L w.heap.size j hji _ _ _ _ (encR_set it L w.heap.size j hji _ _ _ _ (encR_set it L w.heap.size j hji _ _ _ _ (encR_set it L w.heap.size j hji _ _ _ _ (encR_set it L w.heap.size j hji _ _ _ _ hR))))
   | 54,ho,hl,hd =>
    obtain rfl:=Option.some.inj ho
    refine tb_pure (v:=.int .i64 0) hT ho hd rfl rfl (by decide) (by decide) ?_ rfl
    have vc:Act.eval ⟨over T U,dd⟩ (.const (.int .i64 0))=.int .i64 0:=rfl
    generalize Act.eval ⟨over T U,dd⟩=ev at *
    simp [execOp,go_sem,vc]
   | i+55,ho,_,_=>exact absurd ho (by simp)
 · intro U wz hex hout hfin
   obtain ⟨M,hb,hK⟩:EncDone it w.heap.size wz:=hfin 53 (by decide) rfl
   have f3:U 3=some (.int .i64 0):=hfin 54 (by decide) rfl
   have k0:=cell_of_row wz (w.heap.size+1) 0 _ _ _ hb
   have k1:=cell_of_row wz (w.heap.size+1) 1 _ _ _ hb
   have k2:=cell_of_row wz (w.heap.size+1) 2 _ _ _ hb
   have k3:=cell_of_row wz (w.heap.size+1) 3 _ _ _ hb
   have k4:=cell_of_row wz (w.heap.size+1) 4 _ _ _ hb
   have k0':wz.cell? ⟨w.heap.size+1,0,none⟩=some (.int .i64 14):=k0
   have k1':wz.cell? ⟨w.heap.size+1,1,none⟩=some (.int .i64 3):=k1
   have k2':wz.cell? ⟨w.heap.size+1,2,none⟩=some (.int .i64 0):=k2
   have k3':wz.cell? ⟨w.heap.size+1,3,none⟩=some (.string ⟨#[]⟩):=k3
   have k4':wz.cell? ⟨w.heap.size+1,4,none⟩=some (.slice M.1 17 M.2):=k4
   have HK:=Hi hK
   have HEX:=Hi hex
   clear k0 k1 k2 k3 k4 hK hb hex hfin
   rw [over_list]
   simp (disch:=decide) only [overL,Nat.reduceAdd,hout,Option.getD_none]
   rw [f3]
   simp only [Option.getD_some]
   clear hout f3
   go_wp2_with fail
   refine bodyPost_ret (v:=.tuple #[.agg #[.int .i64 14,.int .i64 3,.int .i64 0,.string ⟨#[]⟩,.slice M.1 17 M.2],.int .i64 0]) (by simp [results,Tryz.results23,go_sem,k0',k1',k2',k3',k4']) rfl ⟨⟨M,rfl,HK.out.lower (Nat.le_add_right _ _)⟩,HEX.out⟩

def itemOf (ks:List Nd):It.Item:=⟨(ks.getD 0 default).n,(ks.getD 1 default).n,(ks.getD 2 default).n,(ks.getD 3 default).s,(ks.getD 4 default).kids.map Nd.s,(ks.getD 5 default).kids.map Nd.n,(ks.getD 6 default).n,(ks.getD 7 default).n,(ks.getD 8 default).kids.map Nd.s,(ks.getD 9 default).n,(ks.getD 10 default).s,(ks.getD 11 default).n,(ks.getD 12 default).n,(ks.getD 13 default).n,(ks.getD 14 default).n,(ks.getD 15 default).kids.map Nd.n,(ks.getD 16 default).n⟩
structure InX (w:World) (it:It.Item) (L:It.Loc):Prop where
 o:SlS w L.oA it.opts
 c:SlI w L.cA it.chs
 t:SlS w L.tA it.texts
 s:SlI w L.sA it.assets
 oc:it.opts.length≤L.oc∧L.oc≤maxLen
 cc:it.chs.length≤L.cc∧L.cc≤maxLen
 tc:it.texts.length≤L.tc∧L.tc≤maxLen
 sc:it.assets.length≤L.sc∧L.sc≤maxLen
 ob:TyB w L.oA 9
 cb:TyB w L.cA 3
 tb:TyB w L.tA 9
 sb:TyB w L.sA 3
theorem InX.ext {w w':World} {it:It.Item} {L:It.Loc} (h:InX w it L) (he:Ext w w'):InX w' it L :=
 ⟨h.o.ext he,h.c.ext he,h.t.ext he,h.s.ext he,h.oc,h.cc,h.tc,h.sc,h.ob.ext he,h.cb.ext he,h.tb.ext he,h.sb.ext he⟩
theorem InX.in_ {w:World} {it:It.Item} {L:It.Loc} (h:InX w it L) (hok:It.Ok it):It.In w it L:=⟨hok,h.o,h.c,h.t,h.s,h.oc,h.cc,h.tc,h.sc⟩
theorem TyB.other {w:World} {A:Option Addr} {t t':TypeId} {q:Nat} {cs:Array Value} {fr:Nat×Nat} (h:TyB w A t) (hq:w.heap[q]?=some (.cells cs t' fr)) (hne:t≠t'):∀ a,A=some a→a.block≠q:=by
 rintro a ha rfl
 obtain ⟨cur,h1⟩:=h a ha
 rw [hq] at h1
 injection h1 with h1
 injection h1 with _ ht
 exact hne ht.symm
theorem TyB.setCell {w:World} {A:Option Addr} {t:TypeId} (h:TyB w A t) {p:Addr} (hp:∀ a,A=some a→a.block≠p.block) (v:Value):TyB (w.setCell p v) A t:=fun a ha=>by
 obtain ⟨cur,h1⟩:=h a ha
 exact ⟨cur,by rw [Below.heap_setCell _ _ _ _ (hp a ha)];exact h1⟩
def BlkI (w:World) (q:Nat):Prop:=∃ cs:Array Value,w.heap[q]?=some (.cells cs 45 (0,0))∧cs.size=17
theorem BlkI.ext {w w':World} {q:Nat} (h:BlkI w q) (he:Ext w w'):BlkI w' q:=by obtain ⟨cs,h1,h2⟩:=h;exact ⟨cs,he.blockAt h1,h2⟩
theorem BlkI.cell {w:World} {q:Nat} (h:BlkI w q) {i:Nat} (hi:i<17):∃ v,w.cell? ⟨q,i,none⟩=some v:=by
 obtain ⟨cs,h1,h2⟩:=h
 exact ⟨cs[i],by rw [cell_of_row w q i cs _ _ h1];exact Array.getElem?_eq_getElem (by omega)⟩
theorem BlkI.free {w:World} {q:Nat} (h:BlkI w q) (i:Nat):w.frozen? ⟨q,i,none⟩=false:=by
 obtain ⟨cs,h1,h2⟩:=h
 simp [World.frozen?,h1]
theorem BlkI.set {w:World} {q:Nat} (h:BlkI w q) (i:Nat) (v:Value):BlkI (w.setCell ⟨q,i,none⟩ v) q:=by
 obtain ⟨cs,h1,h2⟩:=h
 exact ⟨cs.setIfInBounds i v,by simp [World.setCell,Array.getElem?_modify,h1],by simpa using h2⟩
theorem InX.set {w:World} {it:It.Item} {L:It.Loc} (h:InX w it L) {q:Nat} (hq:BlkI w q) (i:Nat) (v:Value):InX (w.setCell ⟨q,i,none⟩ v) it L:=by
 obtain ⟨cs,h1,h2⟩:=hq
 have o:=h.ob.other h1 (by decide)
 have c:=h.cb.other h1 (by decide)
 have t:=h.tb.other h1 (by decide)
 have s:=h.sb.other h1 (by decide)
 exact ⟨Sl.setCell h.o o v,Sl.setCell h.c c v,Sl.setCell h.t t v,Sl.setCell h.s s v,h.oc,h.cc,h.tc,h.sc,h.ob.setCell o v,h.cb.setCell c v,h.tb.setCell t v,h.sb.setCell s v⟩

abbrev put17 (w:World) (q:Nat) (v0 v1 v2 v3 v4 v5 v6 v7 v8 v9 v10 v11 v12 v13 v14 v15 v16:Value):World:=(((((((((((((((((w.setCell ⟨q,0,none⟩ v0).setCell ⟨q,1,none⟩ v1).setCell ⟨q,2,none⟩ v2).setCell ⟨q,3,none⟩ v3).setCell ⟨q,4,none⟩ v4).setCell ⟨q,5,none⟩ v5).setCell ⟨q,6,none⟩ v6).setCell ⟨q,7,none⟩ v7).setCell ⟨q,8,none⟩ v8).setCell ⟨q,9,none⟩ v9).setCell ⟨q,10,none⟩ v10).setCell ⟨q,11,none⟩ v11).setCell ⟨q,12,none⟩ v12).setCell ⟨q,13,none⟩ v13).setCell ⟨q,14,none⟩ v14).setCell ⟨q,15,none⟩ v15).setCell ⟨q,16,none⟩ v16)
theorem put17_block {w:World} {q:Nat} (h:BlkI w q) (v0 v1 v2 v3 v4 v5 v6 v7 v8 v9 v10 v11 v12 v13 v14 v15 v16:Value):(put17 w q v0 v1 v2 v3 v4 v5 v6 v7 v8 v9 v10 v11 v12 v13 v14 v15 v16).heap[q]?=some (.cells #[v0,v1,v2,v3,v4,v5,v6,v7,v8,v9,v10,v11,v12,v13,v14,v15,v16] 45 (0,0)):=by
 obtain ⟨cs,h1,h2⟩:=h
 obtain ⟨c0,c1,c2,c3,c4,c5,c6,c7,c8,c9,c10,c11,c12,c13,c14,c15,c16,rfl⟩:∃ c0 c1 c2 c3 c4 c5 c6 c7 c8 c9 c10 c11 c12 c13 c14 c15 c16,cs=#[c0,c1,c2,c3,c4,c5,c6,c7,c8,c9,c10,c11,c12,c13,c14,c15,c16]:=by
  obtain ⟨l⟩:=cs
  match l,h2 with
  | [c0,c1,c2,c3,c4,c5,c6,c7,c8,c9,c10,c11,c12,c13,c14,c15,c16],_=>exact ⟨c0,c1,c2,c3,c4,c5,c6,c7,c8,c9,c10,c11,c12,c13,c14,c15,c16,rfl⟩
 simp [World.setCell,Array.getElem?_modify,h1]
theorem put17_ext {a w:World} {q:Nat} (h:Ext a w) (hq:a.heap.size≤q) (v0 v1 v2 v3 v4 v5 v6 v7 v8 v9 v10 v11 v12 v13 v14 v15 v16:Value):Ext a (put17 w q v0 v1 v2 v3 v4 v5 v6 v7 v8 v9 v10 v11 v12 v13 v14 v15 v16) :=
 ((((((((((((((((h.setCell hq _).setCell hq _).setCell hq _).setCell hq _).setCell hq _).setCell hq _).setCell hq _).setCell hq _).setCell hq _).setCell hq _).setCell hq _).setCell hq _).setCell hq _).setCell hq _).setCell hq _).setCell hq _).setCell hq _
set_option maxRecDepth 100000 in
set_option maxHeartbeats 1600000 in
theorem number_any (g b off len c K : Nat) (n : Int) (w : World) (h1 : w.cell? ⟨g, 4, none⟩ = some (.slice (some ⟨b, off, none⟩) len c)) (h2 : w.cell? ⟨b, off + K * 5 + 2, none⟩ = some (.int .i64 n)) (hK : K < len) (hl : len ≤ 1000000) :
    Calls Tryz.prog 109 #[.int .i64 ((K:Int)+1),.pointer (some ⟨g,0,none⟩)] w fun e w'=>e=.returned (.int .i64 n)∧w=w':=by
 have e1:(K:Int)+1-1=(K:Int):=by omega
 have k0:(0:Int)≤(K:Int):=by omega
 have k1:(K:Int)<(len:Int):=by omega
 go_enter Tryz.func109,Tryz.ntmps109
 go_wp2
 go_ret
 exact ⟨rfl,rfl⟩

theorem It.addL_at {a b:It.Item} {k:Nat} {d:Bool} {s:ByteArray} (h:(It.pairs a b)[k]?=some (d,s)):It.addL (It.foldN ((It.pairs a b).take k)) d s=It.foldN ((It.pairs a b).take (k+1)):=(It.foldN_snoc h).symm
theorem It.few (a b:It.Item) (k:Nat):(It.foldN ((It.pairs a b).take k)).length≤1000:=by
 have:=It.foldN_le ((It.pairs a b).take k)
 have:=List.length_take_le' k (It.pairs a b)
 have e:(It.pairs a b).length=17:=rfl
 omega

set_option maxRecDepth 100000 in
set_option maxHeartbeats 64000000 in
theorem rdiff_any (a b : It.Item) (La Lb : It.Loc) (w : World) (ha : It.In w a La) (hb : It.In w b Lb) :
    Calls Tryz.prog 86 #[It.agg a La,It.agg b Lb] w fun e w'=>(∃ (A:Option Addr) (c:Nat),e=.returned (.slice A (It.diff a b).length c)∧SlS w' A (It.diff a b)∧(It.diff a b).length≤c∧c≤maxLen)∧Ext w w':=by
 have HA:=Hi ha
 have HB:=Hi hb
 clear ha hb
 obtain ⟨B,hB⟩:∃ B,((w.alloc (.cells (It.cells a La).toArray 45)).alloc (.cells (It.cells b Lb).toArray 45))=B:=⟨_,rfl⟩
 have ca:∀ (i:Nat) v,(It.cells a La)[i]?=some v→B.cell? ⟨w.heap.size,i,none⟩=some v:=fun i v hv=>by
  subst hB
  refine ((Ext.refl _).alloc _).keep ?_
  rw [World.cell?_alloc_new];simpa using hv
 have cb:∀ (i:Nat) v,(It.cells b Lb)[i]?=some v→B.cell? ⟨w.heap.size+1,i,none⟩=some v:=fun i v hv=>by
  subst hB
  have:=World.cell?_alloc_new (w.alloc (.cells (It.cells a La).toArray 45)) (It.cells b Lb).toArray 45 i
  rw [show (w.alloc (.cells (It.cells a La).toArray 45)).heap.size=w.heap.size+1 by simp] at this
  rw [this];simpa using hv
 have CA:=Hi ca
 have CB:=Hi cb
 have X0:Hid (Ext w B):=Hi (by subst hB;exact ((Ext.refl _).alloc _).alloc _)
 have HB0:=Hi hB
 clear ca cb hB
 simp only [It.cells] at HB0
 unfold It.agg
 go_enter Tryz.func86,Tryz.ntmps86
 -- Id
 have hw0:=HB0.out
 have V:Hid (RowS B.heap.size (It.foldN ((It.pairs a b).take 0)) B (.slice none 0 0)):=Hi (own_nil _ _ _ _)
 have X_0:Hid (Ext B B):=Hi (Ext.refl _)
 have ka:=CA.out 0 _ rfl
 have kb:=CB.out 0 _ rfl
 rw [← hw0] at ka kb
 have HW0:=Hi hw0
 clear hw0
 go_wp2_with fail
 rw [HW0.out]
 clear ka kb

 with_reducible refine (add_to B B.heap.size (Nat.le_refl _) _ (xs:=It.foldN ((It.pairs a b).take 0)) _ _ (It.addL_at (a:=a) (b:=b) (k:=0) rfl) _ X_0.out X_0.out.size (It.few a b 0) V.out).mono ?_
 rintro e w0 ⟨v0,rfl,hR,hX⟩
 clear V X_0
 have V:Hid (RowS B.heap.size (It.foldN ((It.pairs a b).take 1)) w0 v0):=Hi hR
 have X_1:=Hi hX
 clear hR hX
 -- Version
 have ka:(_:World).cell? ⟨w.heap.size,1,none⟩=some (.int .i64 a.ver):=X_1.out.keep (CA.out 1 _ rfl)
 have kb:(_:World).cell? ⟨w.heap.size+1,1,none⟩=some (.int .i64 b.ver):=X_1.out.keep (CB.out 1 _ rfl)
 go_wp2_with fail
 with_reducible refine (add_to B B.heap.size (Nat.le_refl _) _ (xs:=It.foldN ((It.pairs a b).take 1)) _ _ (It.addL_at (a:=a) (b:=b) (k:=1) rfl) _ X_1.out X_1.out.size (It.few a b 1) V.out).mono ?_
 rintro e w1 ⟨v1,rfl,hR,hX⟩
 clear ka kb V X_1
 have V:Hid (RowS B.heap.size (It.foldN ((It.pairs a b).take 2)) w1 v1):=Hi hR
 have X_2:=Hi hX
 clear hR hX
 -- Kind
 have ka:(_:World).cell? ⟨w.heap.size,2,none⟩=some (.int .i64 a.kind):=X_2.out.keep (CA.out 2 _ rfl)
 have kb:(_:World).cell? ⟨w.heap.size+1,2,none⟩=some (.int .i64 b.kind):=X_2.out.keep (CB.out 2 _ rfl)
 go_wp2_with fail
 with_reducible refine (add_to B B.heap.size (Nat.le_refl _) _ (xs:=It.foldN ((It.pairs a b).take 2)) _ _ (It.addL_at (a:=a) (b:=b) (k:=2) rfl) _ X_2.out X_2.out.size (It.few a b 2) V.out).mono ?_
 rintro e w2 ⟨v2,rfl,hR,hX⟩
 clear ka kb V X_2
 have V:Hid (RowS B.heap.size (It.foldN ((It.pairs a b).take 3)) w2 v2):=Hi hR
 have X_3:=Hi hX
 clear hR hX
 -- Stem
 have ka:(_:World).cell? ⟨w.heap.size,3,none⟩=some (.string a.stem):=X_3.out.keep (CA.out 3 _ rfl)
 have kb:(_:World).cell? ⟨w.heap.size+1,3,none⟩=some (.string b.stem):=X_3.out.keep (CB.out 3 _ rfl)
 go_wp2_with fail
 with_reducible refine (add_to B B.heap.size (Nat.le_refl _) _ (xs:=It.foldN ((It.pairs a b).take 3)) _ _ (ys:=It.foldN ((It.pairs a b).take (3+1))) (by rw [It.beqB];exact It.addL_at (a:=a) (b:=b) (k:=3) rfl) _ X_3.out X_3.out.size (It.few a b 3) V.out).mono ?_
 rintro e w3 ⟨v3,rfl,hR,hX⟩
 clear ka kb V X_3
 have V:Hid (RowS B.heap.size (It.foldN ((It.pairs a b).take 4)) w3 v3):=Hi hR
 have X_4:=Hi hX
 clear hR hX
 -- Options
 have ka:(_:World).cell? ⟨w.heap.size,4,none⟩=some (.slice La.oA a.opts.length La.oc):=X_4.out.keep (CA.out 4 _ rfl)
 have kb:(_:World).cell? ⟨w.heap.size+1,4,none⟩=some (.slice Lb.oA b.opts.length Lb.oc):=X_4.out.keep (CB.out 4 _ rfl)
 go_wp2_with fail
 with_reducible refine (rsameStrings_any La.oA La.oc Lb.oA Lb.oc a.opts b.opts _ (HA.out.o.ext (X0.out.trans X_4.out)) (HB.out.o.ext (X0.out.trans X_4.out)) (Nat.le_trans HA.out.ok.ol (by decide)) (Nat.le_trans HB.out.ok.ol (by decide))).mono ?_
 rintro e w4' ⟨rfl,hx⟩
 have Y_4:=Hi (X_4.out.trans hx)
 have V':Hid (RowS B.heap.size (It.foldN ((It.pairs a b).take 4)) w4' v3):=Hi (own_ext V.out hx)
 clear hx ka kb V X_4
 go_wp2_with fail
 with_reducible refine (add_to B B.heap.size (Nat.le_refl _) _ (xs:=It.foldN ((It.pairs a b).take 4)) _ _ (It.addL_at (a:=a) (b:=b) (k:=4) rfl) _ Y_4.out Y_4.out.size (It.few a b 4) V'.out).mono ?_
 rintro e w4 ⟨v4,rfl,hR,hX⟩
 have V:Hid (RowS B.heap.size (It.foldN ((It.pairs a b).take 5)) w4 v4):=Hi hR
 have X_5:=Hi hX
 clear hR hX V' Y_4
 -- Choices
 have ka:(_:World).cell? ⟨w.heap.size,5,none⟩=some (.slice La.cA a.chs.length La.cc):=X_5.out.keep (CA.out 5 _ rfl)
 have kb:(_:World).cell? ⟨w.heap.size+1,5,none⟩=some (.slice Lb.cA b.chs.length Lb.cc):=X_5.out.keep (CB.out 5 _ rfl)
 go_wp2_with fail
 with_reducible refine (rsameInts_any La.cA La.cc Lb.cA Lb.cc a.chs b.chs _ (HA.out.c.ext (X0.out.trans X_5.out)) (HB.out.c.ext (X0.out.trans X_5.out)) (Nat.le_trans HA.out.ok.cl (by decide)) (Nat.le_trans HB.out.ok.cl (by decide))).mono ?_
 rintro e w5' ⟨rfl,hx⟩
 have Y_5:=Hi (X_5.out.trans hx)
 have V':Hid (RowS B.heap.size (It.foldN ((It.pairs a b).take 5)) w5' v4):=Hi (own_ext V.out hx)
 clear hx ka kb V X_5
 go_wp2_with fail
 with_reducible refine (add_to B B.heap.size (Nat.le_refl _) _ (xs:=It.foldN ((It.pairs a b).take 5)) _ _ (It.addL_at (a:=a) (b:=b) (k:=5) rfl) _ Y_5.out Y_5.out.size (It.few a b 5) V'.out).mono ?_
 rintro e w5 ⟨v5,rfl,hR,hX⟩
 have V:Hid (RowS B.heap.size (It.foldN ((It.pairs a b).take 6)) w5 v5):=Hi hR
 have X_6:=Hi hX
 clear hR hX V' Y_5
 -- Value
 have ka:(_:World).cell? ⟨w.heap.size,6,none⟩=some (.int .i64 a.value):=X_6.out.keep (CA.out 6 _ rfl)
 have kb:(_:World).cell? ⟨w.heap.size+1,6,none⟩=some (.int .i64 b.value):=X_6.out.keep (CB.out 6 _ rfl)
 go_wp2_with fail
 with_reducible refine (add_to B B.heap.size (Nat.le_refl _) _ (xs:=It.foldN ((It.pairs a b).take 6)) _ _ (It.addL_at (a:=a) (b:=b) (k:=6) rfl) _ X_6.out X_6.out.size (It.few a b 6) V.out).mono ?_
 rintro e w6 ⟨v6,rfl,hR,hX⟩
 clear ka kb V X_6
 have V:Hid (RowS B.heap.size (It.foldN ((It.pairs a b).take 7)) w6 v6):=Hi hR
 have X_7:=Hi hX
 clear hR hX
 -- Tol
 have ka:(_:World).cell? ⟨w.heap.size,7,none⟩=some (.int .i64 a.tol):=X_7.out.keep (CA.out 7 _ rfl)
 have kb:(_:World).cell? ⟨w.heap.size+1,7,none⟩=some (.int .i64 b.tol):=X_7.out.keep (CB.out 7 _ rfl)
 go_wp2_with fail
 with_reducible refine (add_to B B.heap.size (Nat.le_refl _) _ (xs:=It.foldN ((It.pairs a b).take 7)) _ _ (It.addL_at (a:=a) (b:=b) (k:=7) rfl) _ X_7.out X_7.out.size (It.few a b 7) V.out).mono ?_
 rintro e w7 ⟨v7,rfl,hR,hX⟩
 clear ka kb V X_7
 have V:Hid (RowS B.heap.size (It.foldN ((It.pairs a b).take 8)) w7 v7):=Hi hR
 have X_8:=Hi hX
 clear hR hX
 -- Texts
 have ka:(_:World).cell? ⟨w.heap.size,8,none⟩=some (.slice La.tA a.texts.length La.tc):=X_8.out.keep (CA.out 8 _ rfl)
 have kb:(_:World).cell? ⟨w.heap.size+1,8,none⟩=some (.slice Lb.tA b.texts.length Lb.tc):=X_8.out.keep (CB.out 8 _ rfl)
 go_wp2_with fail
 with_reducible refine (rsameStrings_any La.tA La.tc Lb.tA Lb.tc a.texts b.texts _ (HA.out.t.ext (X0.out.trans X_8.out)) (HB.out.t.ext (X0.out.trans X_8.out)) (Nat.le_trans HA.out.ok.tl (by decide)) (Nat.le_trans HB.out.ok.tl (by decide))).mono ?_
 rintro e w8' ⟨rfl,hx⟩
 have Y_8:=Hi (X_8.out.trans hx)
 have V':Hid (RowS B.heap.size (It.foldN ((It.pairs a b).take 8)) w8' v7):=Hi (own_ext V.out hx)
 clear hx ka kb V X_8
 go_wp2_with fail
 with_reducible refine (add_to B B.heap.size (Nat.le_refl _) _ (xs:=It.foldN ((It.pairs a b).take 8)) _ _ (It.addL_at (a:=a) (b:=b) (k:=8) rfl) _ Y_8.out Y_8.out.size (It.few a b 8) V'.out).mono ?_
 rintro e w8 ⟨v8,rfl,hR,hX⟩
 have V:Hid (RowS B.heap.size (It.foldN ((It.pairs a b).take 9)) w8 v8):=Hi hR
 have X_9:=Hi hX
 clear hR hX V' Y_8
 -- Points
 have ka:(_:World).cell? ⟨w.heap.size,9,none⟩=some (.int .i64 a.pts):=X_9.out.keep (CA.out 9 _ rfl)
 have kb:(_:World).cell? ⟨w.heap.size+1,9,none⟩=some (.int .i64 b.pts):=X_9.out.keep (CB.out 9 _ rfl)
 go_wp2_with fail
 with_reducible refine (add_to B B.heap.size (Nat.le_refl _) _ (xs:=It.foldN ((It.pairs a b).take 9)) _ _ (It.addL_at (a:=a) (b:=b) (k:=9) rfl) _ X_9.out X_9.out.size (It.few a b 9) V.out).mono ?_
 rintro e w9 ⟨v9,rfl,hR,hX⟩
 clear ka kb V X_9
 have V:Hid (RowS B.heap.size (It.foldN ((It.pairs a b).take 10)) w9 v9):=Hi hR
 have X_10:=Hi hX
 clear hR hX
 -- Content
 have ka:(_:World).cell? ⟨w.heap.size,10,none⟩=some (.string a.cont):=X_10.out.keep (CA.out 10 _ rfl)
 have kb:(_:World).cell? ⟨w.heap.size+1,10,none⟩=some (.string b.cont):=X_10.out.keep (CB.out 10 _ rfl)
 go_wp2_with fail
 with_reducible refine (add_to B B.heap.size (Nat.le_refl _) _ (xs:=It.foldN ((It.pairs a b).take 10)) _ _ (ys:=It.foldN ((It.pairs a b).take (10+1))) (by rw [It.beqB];exact It.addL_at (a:=a) (b:=b) (k:=10) rfl) _ X_10.out X_10.out.size (It.few a b 10) V.out).mono ?_
 rintro e w10 ⟨v10,rfl,hR,hX⟩
 clear ka kb V X_10
 have V:Hid (RowS B.heap.size (It.foldN ((It.pairs a b).take 11)) w10 v10):=Hi hR
 have X_11:=Hi hX
 clear hR hX
 -- Family
 have ka:(_:World).cell? ⟨w.heap.size,11,none⟩=some (.int .i64 a.fam):=X_11.out.keep (CA.out 11 _ rfl)
 have kb:(_:World).cell? ⟨w.heap.size+1,11,none⟩=some (.int .i64 b.fam):=X_11.out.keep (CB.out 11 _ rfl)
 go_wp2_with fail
 with_reducible refine (add_to B B.heap.size (Nat.le_refl _) _ (xs:=It.foldN ((It.pairs a b).take 11)) _ _ (It.addL_at (a:=a) (b:=b) (k:=11) rfl) _ X_11.out X_11.out.size (It.few a b 11) V.out).mono ?_
 rintro e w11 ⟨v11,rfl,hR,hX⟩
 clear ka kb V X_11
 have V:Hid (RowS B.heap.size (It.foldN ((It.pairs a b).take 12)) w11 v11):=Hi hR
 have X_12:=Hi hX
 clear hR hX
 -- Set
 have ka:(_:World).cell? ⟨w.heap.size,12,none⟩=some (.int .i64 a.set_):=X_12.out.keep (CA.out 12 _ rfl)
 have kb:(_:World).cell? ⟨w.heap.size+1,12,none⟩=some (.int .i64 b.set_):=X_12.out.keep (CB.out 12 _ rfl)
 go_wp2_with fail
 with_reducible refine (add_to B B.heap.size (Nat.le_refl _) _ (xs:=It.foldN ((It.pairs a b).take 12)) _ _ (It.addL_at (a:=a) (b:=b) (k:=12) rfl) _ X_12.out X_12.out.size (It.few a b 12) V.out).mono ?_
 rintro e w12 ⟨v12,rfl,hR,hX⟩
 clear ka kb V X_12
 have V:Hid (RowS B.heap.size (It.foldN ((It.pairs a b).take 13)) w12 v12):=Hi hR
 have X_13:=Hi hX
 clear hR hX
 -- Words
 have ka:(_:World).cell? ⟨w.heap.size,13,none⟩=some (.int .i64 a.wrd):=X_13.out.keep (CA.out 13 _ rfl)
 have kb:(_:World).cell? ⟨w.heap.size+1,13,none⟩=some (.int .i64 b.wrd):=X_13.out.keep (CB.out 13 _ rfl)
 go_wp2_with fail
 with_reducible refine (add_to B B.heap.size (Nat.le_refl _) _ (xs:=It.foldN ((It.pairs a b).take 13)) _ _ (It.addL_at (a:=a) (b:=b) (k:=13) rfl) _ X_13.out X_13.out.size (It.few a b 13) V.out).mono ?_
 rintro e w13 ⟨v13,rfl,hR,hX⟩
 clear ka kb V X_13
 have V:Hid (RowS B.heap.size (It.foldN ((It.pairs a b).take 14)) w13 v13):=Hi hR
 have X_14:=Hi hX
 clear hR hX
 -- Seconds
 have ka:(_:World).cell? ⟨w.heap.size,14,none⟩=some (.int .i64 a.sec):=X_14.out.keep (CA.out 14 _ rfl)
 have kb:(_:World).cell? ⟨w.heap.size+1,14,none⟩=some (.int .i64 b.sec):=X_14.out.keep (CB.out 14 _ rfl)
 go_wp2_with fail
 with_reducible refine (add_to B B.heap.size (Nat.le_refl _) _ (xs:=It.foldN ((It.pairs a b).take 14)) _ _ (It.addL_at (a:=a) (b:=b) (k:=14) rfl) _ X_14.out X_14.out.size (It.few a b 14) V.out).mono ?_
 rintro e w14 ⟨v14,rfl,hR,hX⟩
 clear ka kb V X_14
 have V:Hid (RowS B.heap.size (It.foldN ((It.pairs a b).take 15)) w14 v14):=Hi hR
 have X_15:=Hi hX
 clear hR hX
 -- Assets
 have ka:(_:World).cell? ⟨w.heap.size,15,none⟩=some (.slice La.sA a.assets.length La.sc):=X_15.out.keep (CA.out 15 _ rfl)
 have kb:(_:World).cell? ⟨w.heap.size+1,15,none⟩=some (.slice Lb.sA b.assets.length Lb.sc):=X_15.out.keep (CB.out 15 _ rfl)
 go_wp2_with fail
 with_reducible refine (rsameInts_any La.sA La.sc Lb.sA Lb.sc a.assets b.assets _ (HA.out.s.ext (X0.out.trans X_15.out)) (HB.out.s.ext (X0.out.trans X_15.out)) (Nat.le_trans HA.out.ok.sl (by decide)) (Nat.le_trans HB.out.ok.sl (by decide))).mono ?_
 rintro e w15' ⟨rfl,hx⟩
 have Y_15:=Hi (X_15.out.trans hx)
 have V':Hid (RowS B.heap.size (It.foldN ((It.pairs a b).take 15)) w15' v14):=Hi (own_ext V.out hx)
 clear hx ka kb V X_15
 go_wp2_with fail
 with_reducible refine (add_to B B.heap.size (Nat.le_refl _) _ (xs:=It.foldN ((It.pairs a b).take 15)) _ _ (It.addL_at (a:=a) (b:=b) (k:=15) rfl) _ Y_15.out Y_15.out.size (It.few a b 15) V'.out).mono ?_
 rintro e w15 ⟨v15,rfl,hR,hX⟩
 have V:Hid (RowS B.heap.size (It.foldN ((It.pairs a b).take 16)) w15 v15):=Hi hR
 have X_16:=Hi hX
 clear hR hX V' Y_15
 -- Rubric
 have ka:(_:World).cell? ⟨w.heap.size,16,none⟩=some (.int .i64 a.rub):=X_16.out.keep (CA.out 16 _ rfl)
 have kb:(_:World).cell? ⟨w.heap.size+1,16,none⟩=some (.int .i64 b.rub):=X_16.out.keep (CB.out 16 _ rfl)
 go_wp2_with fail
 with_reducible refine (add_to B B.heap.size (Nat.le_refl _) _ (xs:=It.foldN ((It.pairs a b).take 16)) _ _ (It.addL_at (a:=a) (b:=b) (k:=16) rfl) _ X_16.out X_16.out.size (It.few a b 16) V.out).mono ?_
 rintro e w16 ⟨v16,rfl,hR,hX⟩
 clear ka kb V X_16
 have V:Hid (RowS B.heap.size (It.foldN ((It.pairs a b).take 17)) w16 v16):=Hi hR
 have X_17:=Hi hX
 clear hR hX
 obtain ⟨A,c,hsl,hl1,hl2,hSl⟩:=V.out.sl
 subst hsl
 have HS:=Hi hSl
 have HL:=Hi hl1
 have HM:=Hi hl2
 clear hSl hl1 hl2 V
 go_wp2
 go_ret
 have HE17:Hid (It.foldN ((It.pairs a b).take 17)=It.diff a b):=Hi rfl
 rw [HE17.out] at HS HL ⊢
 exact ⟨⟨A,c,rfl,HS.out,HL.out,HM.out⟩,X0.out.trans X_17.out⟩
end Go.Proofs.YtnlenappjjlbjaaGreatDoor
