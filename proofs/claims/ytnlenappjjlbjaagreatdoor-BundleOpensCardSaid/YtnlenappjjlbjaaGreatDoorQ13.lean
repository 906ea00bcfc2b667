/- item.Decode of a node that has the form of an item's tree: a contract. Conditions: those of each theorem. -/
import Derived.Test.YtnlenappjjlbjaaGreatDoorQ12
import Derived.Test.YtnlenappjjlbjaaGreatDoorQ9
namespace Go.Proofs.YtnlenappjjlbjaaGreatDoor
open Go.RowKit Go.Shelf

theorem BlkI.any {w:World} {q0:Nat} (h:BlkI w q0) (q i:Nat) (v:Value):BlkI (w.setCell ⟨q,i,none⟩ v) q0:=by
 by_cases e:q0=q
 · subst e;exact h.set i v
 · obtain ⟨cs,h1,h2⟩:=h
   exact ⟨cs,by rw [Below.heap_setCell _ _ _ _ (show q0≠q from e)];exact h1,h2⟩
def StbI (g:Nat) (p:Option Value→World→Prop):Prop:=(∀ u w w',Ext w w'→p u w→p u w')∧∀ u w q i v,BlkI w q→g+2≤q→p u w→p u (w.setCell ⟨q,i,none⟩ v)
theorem sti_val (g:Nat) (v:Value):StbI g (fun u _=>u=some v):=⟨fun _ _ _ _ h=>h,fun _ _ _ _ _ _ _ h=>h⟩
theorem sti_true (g:Nat):StbI g (fun _ _=>True):=⟨fun _ _ _ _ _=>trivial,fun _ _ _ _ _ _ _ _=>trivial⟩
theorem sti_ss (g n:Nat) (xs:List ByteArray):StbI g (fun u w=>∃ (A:Option Addr) (c:Nat),u=some (.slice A n c)∧SlS w A xs∧n≤c∧c≤maxLen∧TyB w A 9) :=
 ⟨fun _ _ _ he ⟨A,c,e,h1,h2,h3,h4⟩=>⟨A,c,e,h1.ext he,h2,h3,h4.ext he⟩,fun _ _ _ _ _ hq _ ⟨A,c,e,h1,h2,h3,h4⟩=>by
  obtain ⟨cs,q1,_⟩:=hq
  have o:=h4.other q1 (by decide)
  exact ⟨A,c,e,Sl.setCell h1 o _,h2,h3,h4.setCell o _⟩⟩
theorem sti_si (g n:Nat) (xs:List Int):StbI g (fun u w=>∃ (A:Option Addr) (c:Nat),u=some (.slice A n c)∧SlI w A xs∧n≤c∧c≤maxLen∧TyB w A 3) :=
 ⟨fun _ _ _ he ⟨A,c,e,h1,h2,h3,h4⟩=>⟨A,c,e,h1.ext he,h2,h3,h4.ext he⟩,fun _ _ _ _ _ hq _ ⟨A,c,e,h1,h2,h3,h4⟩=>by
  obtain ⟨cs,q1,_⟩:=hq
  have o:=h4.other q1 (by decide)
  exact ⟨A,c,e,Sl.setCell h1 o _,h2,h3,h4.setCell o _⟩⟩
theorem sti_it (g:Nat) (it:It.Item):StbI g (fun u w=>∃ L,u=some (It.agg it L)∧InX w it L) :=
 ⟨fun _ _ _ he ⟨L,e,h⟩=>⟨L,e,h.ext he⟩,fun _ _ _ _ _ hq _ ⟨L,e,h⟩=>⟨L,e,h.set hq _ _⟩⟩
theorem sti_al (g:Nat):StbI g (fun u w=>∃ q:Nat,u=some (.pointer (some ⟨q,0,none⟩))∧g+2≤q∧BlkI w q) :=
 ⟨fun _ _ _ he ⟨q,e,h1,h⟩=>⟨q,e,h1,h.ext he⟩,fun _ _ _ _ _ _ _ ⟨q,e,h1,h⟩=>⟨q,e,h1,h.any _ _ _⟩⟩
theorem sti_box (g:Nat) (v:Value):StbI g (fun _ w=>g+2≤w.heap.size∧w.cell? ⟨g,4,none⟩=some v∧BlkI w (g+1)) :=
 ⟨fun _ _ _ he ⟨h0,h1,h⟩=>⟨Nat.le_trans h0 he.size,he.keep h1,h.ext he⟩,fun _ w q i u _ hq ⟨h0,h1,h⟩=>⟨by simpa using h0,by
  rw [World.cell?_setCell_other _ _ _ _ (by simp <;> omega)];exact h1,h.any _ _ _⟩⟩
def AllStI (g:Nat):List (Option Value→World→Prop)→Prop
 | []=>True
 | p :: l=>StbI g p∧AllStI g l
theorem AllStI.at_ {g:Nat}:∀ {l:List (Option Value→World→Prop)},AllStI g l→∀ j,StbI g (l.getD j fun _ _=>True)
 | [],_,j=>by simpa using sti_true g
 | p :: l,h,0=>h.1
 | p :: l,h,j+1=>by simpa using AllStI.at_ h.2 j

theorem StbI.put17 {g:Nat} {p:Option Value→World→Prop} (h:StbI g p) {u:Option Value} {w:World} {q:Nat} (hb:BlkI w q) (hq:g+2≤q) (v0 v1 v2 v3 v4 v5 v6 v7 v8 v9 v10 v11 v12 v13 v14 v15 v16:Value) (hp:p u w):p u (put17 w q v0 v1 v2 v3 v4 v5 v6 v7 v8 v9 v10 v11 v12 v13 v14 v15 v16):=by
 have hp:=h.2 _ _ q 0 v0 hb hq hp
 have hb:=hb.set 0 v0
 have hp:=h.2 _ _ q 1 v1 hb hq hp
 have hb:=hb.set 1 v1
 have hp:=h.2 _ _ q 2 v2 hb hq hp
 have hb:=hb.set 2 v2
 have hp:=h.2 _ _ q 3 v3 hb hq hp
 have hb:=hb.set 3 v3
 have hp:=h.2 _ _ q 4 v4 hb hq hp
 have hb:=hb.set 4 v4
 have hp:=h.2 _ _ q 5 v5 hb hq hp
 have hb:=hb.set 5 v5
 have hp:=h.2 _ _ q 6 v6 hb hq hp
 have hb:=hb.set 6 v6
 have hp:=h.2 _ _ q 7 v7 hb hq hp
 have hb:=hb.set 7 v7
 have hp:=h.2 _ _ q 8 v8 hb hq hp
 have hb:=hb.set 8 v8
 have hp:=h.2 _ _ q 9 v9 hb hq hp
 have hb:=hb.set 9 v9
 have hp:=h.2 _ _ q 10 v10 hb hq hp
 have hb:=hb.set 10 v10
 have hp:=h.2 _ _ q 11 v11 hb hq hp
 have hb:=hb.set 11 v11
 have hp:=h.2 _ _ q 12 v12 hb hq hp
 have hb:=hb.set 12 v12
 have hp:=h.2 _ _ q 13 v13 hb hq hp
 have hb:=hb.set 13 v13
 have hp:=h.2 _ _ q 14 v14 hb hq hp
 have hb:=hb.set 14 v14
 have hp:=h.2 _ _ q 15 v15 hb hq hp
 have hb:=hb.set 15 v15
 have hp:=h.2 _ _ q 16 v16 hb hq hp
 have hb:=hb.set 16 v16
 exact hp
def decL (g b off c:Nat) (y0 y1 y2 y3 y4 y5 y6 y7 y8 y9 y10 y11 y12 y13 y14 y15 y16:Nd) (N4 N5 N8 N15:Option Addr×Nat):List (Option Value→World→Prop):=[fun u _=>u=some (.func (.func 109) #[] #[.pointer (some ⟨g,0,none⟩)]),
 fun u _=>u=some (.int .i64 y0.n),
 fun u _=>u=some (.func (.func 109) #[] #[.pointer (some ⟨g,0,none⟩)]),
 fun u _=>u=some (.int .i64 y1.n),
 fun u _=>u=some (.func (.func 109) #[] #[.pointer (some ⟨g,0,none⟩)]),
 fun u _=>u=some (.int .i64 y2.n),
 fun u _=>u=some (.pointer (some ⟨g,4,none⟩)),
 fun u _=>u=some (.slice (some ⟨b,off,none⟩) 17 c),
 fun u _=>u=some (.pointer (some ⟨b,off+15,none⟩)),
 fun u _=>u=some (.pointer (some ⟨b,off+18,none⟩)),
 fun u _=>u=some (.string y3.s),
 fun u _=>u=some (.pointer (some ⟨g,4,none⟩)),
 fun u _=>u=some (.slice (some ⟨b,off,none⟩) 17 c),
 fun u _=>u=some (.pointer (some ⟨b,off+20,none⟩)),
 fun u _=>u=some (.agg #[.int .i64 y4.tag,.int .i64 y4.kind,.int .i64 y4.n,.string y4.s,.slice N4.1 y4.kids.length N4.2]),
 fun u w=>∃ (A:Option Addr) (c:Nat),u=some (.slice A y4.kids.length c)∧SlS w A (y4.kids.map Nd.s)∧y4.kids.length≤c∧c≤maxLen∧TyB w A 9,
 fun u _=>u=some (.pointer (some ⟨g,4,none⟩)),
 fun u _=>u=some (.slice (some ⟨b,off,none⟩) 17 c),
 fun u _=>u=some (.pointer (some ⟨b,off+25,none⟩)),
 fun u _=>u=some (.agg #[.int .i64 y5.tag,.int .i64 y5.kind,.int .i64 y5.n,.string y5.s,.slice N5.1 y5.kids.length N5.2]),
 fun u w=>∃ (A:Option Addr) (c:Nat),u=some (.slice A y5.kids.length c)∧SlI w A (y5.kids.map Nd.n)∧y5.kids.length≤c∧c≤maxLen∧TyB w A 3,
 fun u _=>u=some (.func (.func 109) #[] #[.pointer (some ⟨g,0,none⟩)]),
 fun u _=>u=some (.int .i64 y6.n),
 fun u _=>u=some (.func (.func 109) #[] #[.pointer (some ⟨g,0,none⟩)]),
 fun u _=>u=some (.int .i64 y7.n),
 fun u _=>u=some (.pointer (some ⟨g,4,none⟩)),
 fun u _=>u=some (.slice (some ⟨b,off,none⟩) 17 c),
 fun u _=>u=some (.pointer (some ⟨b,off+40,none⟩)),
 fun u _=>u=some (.agg #[.int .i64 y8.tag,.int .i64 y8.kind,.int .i64 y8.n,.string y8.s,.slice N8.1 y8.kids.length N8.2]),
 fun u w=>∃ (A:Option Addr) (c:Nat),u=some (.slice A y8.kids.length c)∧SlS w A (y8.kids.map Nd.s)∧y8.kids.length≤c∧c≤maxLen∧TyB w A 9,
 fun u _=>u=some (.func (.func 109) #[] #[.pointer (some ⟨g,0,none⟩)]),
 fun u _=>u=some (.int .i64 y9.n),
 fun u _=>u=some (.pointer (some ⟨g,4,none⟩)),
 fun u _=>u=some (.slice (some ⟨b,off,none⟩) 17 c),
 fun u _=>u=some (.pointer (some ⟨b,off+50,none⟩)),
 fun u _=>u=some (.pointer (some ⟨b,off+53,none⟩)),
 fun u _=>u=some (.string y10.s),
 fun u _=>u=some (.func (.func 109) #[] #[.pointer (some ⟨g,0,none⟩)]),
 fun u _=>u=some (.int .i64 y11.n),
 fun u _=>u=some (.func (.func 109) #[] #[.pointer (some ⟨g,0,none⟩)]),
 fun u _=>u=some (.int .i64 y12.n),
 fun u _=>u=some (.func (.func 109) #[] #[.pointer (some ⟨g,0,none⟩)]),
 fun u _=>u=some (.int .i64 y13.n),
 fun u _=>u=some (.func (.func 109) #[] #[.pointer (some ⟨g,0,none⟩)]),
 fun u _=>u=some (.int .i64 y14.n),
 fun u _=>u=some (.pointer (some ⟨g,4,none⟩)),
 fun u _=>u=some (.slice (some ⟨b,off,none⟩) 17 c),
 fun u _=>u=some (.pointer (some ⟨b,off+75,none⟩)),
 fun u _=>u=some (.agg #[.int .i64 y15.tag,.int .i64 y15.kind,.int .i64 y15.n,.string y15.s,.slice N15.1 y15.kids.length N15.2]),
 fun u w=>∃ (A:Option Addr) (c:Nat),u=some (.slice A y15.kids.length c)∧SlI w A (y15.kids.map Nd.n)∧y15.kids.length≤c∧c≤maxLen∧TyB w A 3,
 fun u _=>u=some (.func (.func 109) #[] #[.pointer (some ⟨g,0,none⟩)]),
 fun u _=>u=some (.int .i64 y16.n),
 fun u w=>∃ L,u=some (It.agg ⟨y0.n,y1.n,y2.n,y3.s,y4.kids.map Nd.s,y5.kids.map Nd.n,y6.n,y7.n,y8.kids.map Nd.s,y9.n,y10.s,y11.n,y12.n,y13.n,y14.n,y15.kids.map Nd.n,y16.n⟩ L)∧InX w ⟨y0.n,y1.n,y2.n,y3.s,y4.kids.map Nd.s,y5.kids.map Nd.n,y6.n,y7.n,y8.kids.map Nd.s,y9.n,y10.s,y11.n,y12.n,y13.n,y14.n,y15.kids.map Nd.n,y16.n⟩ L,
 fun u w=>∃ q:Nat,u=some (.pointer (some ⟨q,0,none⟩))∧g+2≤q∧BlkI w q,
 fun _ _=>True,
 fun _ w=>g+2≤w.heap.size∧w.cell? ⟨g,4,none⟩=some (.slice (some ⟨b,off,none⟩) 17 c)∧BlkI w (g+1)]
theorem decL_st (g b off c:Nat) (y0 y1 y2 y3 y4 y5 y6 y7 y8 y9 y10 y11 y12 y13 y14 y15 y16:Nd) (N4 N5 N8 N15:Option Addr×Nat):AllStI g (decL g b off c y0 y1 y2 y3 y4 y5 y6 y7 y8 y9 y10 y11 y12 y13 y14 y15 y16 N4 N5 N8 N15):=⟨sti_val _ _,sti_val _ _,sti_val _ _,sti_val _ _,sti_val _ _,sti_val _ _,sti_val _ _,sti_val _ _,sti_val _ _,sti_val _ _,sti_val _ _,sti_val _ _,sti_val _ _,sti_val _ _,sti_val _ _,sti_ss _ _ _,sti_val _ _,sti_val _ _,sti_val _ _,sti_val _ _,sti_si _ _ _,sti_val _ _,sti_val _ _,sti_val _ _,sti_val _ _,sti_val _ _,sti_val _ _,sti_val _ _,sti_val _ _,sti_ss _ _ _,sti_val _ _,sti_val _ _,sti_val _ _,sti_val _ _,sti_val _ _,sti_val _ _,sti_val _ _,sti_val _ _,sti_val _ _,sti_val _ _,sti_val _ _,sti_val _ _,sti_val _ _,sti_val _ _,sti_val _ _,sti_val _ _,sti_val _ _,sti_val _ _,sti_val _ _,sti_si _ _ _,sti_val _ _,sti_val _ _,sti_it _ _,sti_al _,sti_true _,sti_box _ _,trivial⟩
def DecDone (g:Nat) (it:It.Item) (u:Option Value) (w:World):Prop:=∃ (q:Nat) (L:It.Loc),u=some (.pointer (some ⟨q,0,none⟩))∧g+2≤q∧w.heap[q]?=some (.cells (It.cells it L).toArray 45 (0,0))∧InX w it L
theorem DecDone.ext {g:Nat} {it:It.Item} {u:Option Value} {w w':World} (h:DecDone g it u w) (he:Ext w w'):DecDone g it u w':=by
 obtain ⟨q,L,e,h1,h2,h3⟩:=h
 exact ⟨q,L,e,h1,he.blockAt h2,h3.ext he⟩
def decR (g b off c:Nat) (y0 y1 y2 y3 y4 y5 y6 y7 y8 y9 y10 y11 y12 y13 y14 y15 y16:Nd) (N4 N5 N8 N15:Option Addr×Nat) (j:Nat) (u:Option Value) (w:World):Prop:=if j=54 then DecDone g ⟨y0.n,y1.n,y2.n,y3.s,y4.kids.map Nd.s,y5.kids.map Nd.n,y6.n,y7.n,y8.kids.map Nd.s,y9.n,y10.s,y11.n,y12.n,y13.n,y14.n,y15.kids.map Nd.n,y16.n⟩ u w else (decL g b off c y0 y1 y2 y3 y4 y5 y6 y7 y8 y9 y10 y11 y12 y13 y14 y15 y16 N4 N5 N8 N15).getD j (fun _ _=>True) u w
theorem decR_ext (g b off c:Nat) (y0 y1 y2 y3 y4 y5 y6 y7 y8 y9 y10 y11 y12 y13 y14 y15 y16:Nd) (N4 N5 N8 N15:Option Addr×Nat) (j:Nat) (u:Option Value) (w w':World) (he:Ext w w') (h:decR g b off c y0 y1 y2 y3 y4 y5 y6 y7 y8 y9 y10 y11 y12 y13 y14 y15 y16 N4 N5 N8 N15 j u w):decR g b off c y0 y1 y2 y3 y4 y5 y6 y7 y8 y9 y10 y11 y12 y13 y14 y15 y16 N4 N5 N8 N15 j u w':=by
 unfold decR at h ⊢
 by_cases e:j=54
 · rw [if_pos e] at h ⊢;exact h.ext he
 · rw [if_neg e] at h ⊢;exact ((decL_st g b off c y0 y1 y2 y3 y4 y5 y6 y7 y8 y9 y10 y11 y12 y13 y14 y15 y16 N4 N5 N8 N15).at_ j).1 u w w' he h
theorem decR_put (g b off c:Nat) (y0 y1 y2 y3 y4 y5 y6 y7 y8 y9 y10 y11 y12 y13 y14 y15 y16:Nd) (N4 N5 N8 N15:Option Addr×Nat) (j:Nat) (hj:j≠54) (u:Option Value) (w:World) {q:Nat} (hb:BlkI w q) (hq:g+2≤q) (v0 v1 v2 v3 v4 v5 v6 v7 v8 v9 v10 v11 v12 v13 v14 v15 v16:Value) (h:decR g b off c y0 y1 y2 y3 y4 y5 y6 y7 y8 y9 y10 y11 y12 y13 y14 y15 y16 N4 N5 N8 N15 j u w):decR g b off c y0 y1 y2 y3 y4 y5 y6 y7 y8 y9 y10 y11 y12 y13 y14 y15 y16 N4 N5 N8 N15 j u (put17 w q v0 v1 v2 v3 v4 v5 v6 v7 v8 v9 v10 v11 v12 v13 v14 v15 v16):=by
 unfold decR at h ⊢
 rw [if_neg hj] at h ⊢
 exact ((decL_st g b off c y0 y1 y2 y3 y4 y5 y6 y7 y8 y9 y10 y11 y12 y13 y14 y15 y16 N4 N5 N8 N15).at_ j).put17 hb hq v0 v1 v2 v3 v4 v5 v6 v7 v8 v9 v10 v11 v12 v13 v14 v15 v16 h
def decD:List Nat:=[12,13,14,15,16,17,18,19,20,21,22,23,24,25,26,27,28,29,30,31,32,33,34,35,36,37,38,39,40,41,42,43,44,45,46,47,48,49,50,51,52,53,54,55,56,57,58,59,60,61,62,63,64,5,5,1001]
def decE (g:Nat) (t:Array Value):Prop:=t.getD 1 undef=.pointer (some ⟨g,0,none⟩)∧t.getD 4 undef=.func (.func 109) #[] #[.pointer (some ⟨g,0,none⟩)]∧t.size=72

theorem InX.put17 {w:World} {it:It.Item} {L:It.Loc} (h:InX w it L) {q:Nat} (hb:BlkI w q) (v0 v1 v2 v3 v4 v5 v6 v7 v8 v9 v10 v11 v12 v13 v14 v15 v16:Value):InX (put17 w q v0 v1 v2 v3 v4 v5 v6 v7 v8 v9 v10 v11 v12 v13 v14 v15 v16) it L:=by
 have h:=h.set hb 0 v0
 have hb:=hb.set 0 v0
 have h:=h.set hb 1 v1
 have hb:=hb.set 1 v1
 have h:=h.set hb 2 v2
 have hb:=hb.set 2 v2
 have h:=h.set hb 3 v3
 have hb:=hb.set 3 v3
 have h:=h.set hb 4 v4
 have hb:=hb.set 4 v4
 have h:=h.set hb 5 v5
 have hb:=hb.set 5 v5
 have h:=h.set hb 6 v6
 have hb:=hb.set 6 v6
 have h:=h.set hb 7 v7
 have hb:=hb.set 7 v7
 have h:=h.set hb 8 v8
 have hb:=hb.set 8 v8
 have h:=h.set hb 9 v9
 have hb:=hb.set 9 v9
 have h:=h.set hb 10 v10
 have hb:=hb.set 10 v10
 have h:=h.set hb 11 v11
 have hb:=hb.set 11 v11
 have h:=h.set hb 12 v12
 have hb:=hb.set 12 v12
 have h:=h.set hb 13 v13
 have hb:=hb.set 13 v13
 have h:=h.set hb 14 v14
 have hb:=hb.set 14 v14
 have h:=h.set hb 15 v15
 have hb:=hb.set 15 v15
 have h:=h.set hb 16 v16
 have hb:=hb.set 16 v16
 exact h
theorem isTree_v (B d : Nat) (x : Nd) (M : Option Addr × Nat) {v : Bool} (hv : isTr x = v) (w : World) (hK : KidsAt B 0 (d + 2) w M x.kids) (hz : SzOk 2 x) :
    Calls Tryz.prog 108 #[nda x M] w fun e w'=>e=.returned (.bool v)∧Ext w w':=by subst hv;exact isTree_any B d x M w hK hz
theorem number_to {g b off len c K : Nat} {n t : Int} (ht : t = (K : Int) + 1) (w : World) (h1 : w.cell? ⟨g, 4, none⟩ = some (.slice (some ⟨b, off, none⟩) len c)) (h2 : w.cell? ⟨b, off + K * 5 + 2, none⟩ = some (.int .i64 n)) (hK : K < len) (hl : len ≤ 1000000) :
    Calls Tryz.prog 109 #[.int .i64 t,.pointer (some ⟨g,0,none⟩)] w fun e w'=>e=.returned (.int .i64 n)∧w=w':=by subst ht;exact number_any g b off len c K n w h1 h2 hK hl

theorem setRow_at {w:World} {g:Nat} {cs cs':Array Value} {t:TypeId} (h:w.heap[g]?=some (.cells cs t (0,0))):(w.setRow g cs').heap[g]?=some (.cells cs' t (0,0)):=by
 simp [World.setRow,Array.getElem?_modify,h]
theorem setRow_other (w:World) {g q:Nat} (cs:Array Value) (h:q≠g):(w.setRow g cs).heap[q]?=w.heap[q]?:=by
 simp [World.setRow,Array.getElem?_modify,show g≠q from fun e=>h e.symm]
theorem Ext.setRow {a b:World} (h:Ext a b) {g:Nat} (hg:a.heap.size≤g) (cs:Array Value):Ext a (b.setRow g cs) :=
 ⟨h.os,h.tape,h.output,by simpa [World.setRow] using h.size,fun q hq=>by rw [← h.block q hq];exact setRow_other _ _ (by omega)⟩
theorem Sl.setRow {w:World} {k:Nat} {A:Option Addr} {xs:List (List Value)} (h:Sl w k A xs) {g:Nat} (hp:∀ a,A=some a→a.block≠g) (cs:Array Value):Sl (w.setRow g cs) k A xs:=by
 rcases h with h | ⟨b,off,hA,hb,hc⟩
 · exact Or.inl h
 · refine Or.inr ⟨b,off,hA,by simpa [World.setRow] using hb,fun i cs' hi j u hu=>?_⟩
   have hne:=hp _ hA
   simp only at hne
   rw [World.cell?_of_block (w:=w) (w':=w.setRow g cs) (setRow_other _ _ hne)]
   exact hc i cs' hi j u hu
theorem TyB.setRow {w:World} {A:Option Addr} {t:TypeId} (h:TyB w A t) {g:Nat} (hp:∀ a,A=some a→a.block≠g) (cs:Array Value):TyB (w.setRow g cs) A t:=fun a ha=>by
 obtain ⟨cur,h1⟩:=h a ha
 exact ⟨cur,by rw [setRow_other _ _ (hp a ha)];exact h1⟩
theorem InX.setRow {w:World} {it:It.Item} {L:It.Loc} (h:InX w it L) {q:Nat} (hq:BlkI w q) (cs:Array Value) (_:cs.size=17):InX (w.setRow q cs) it L:=by
 obtain ⟨c0,h1,h2⟩:=hq
 have o:=h.ob.other h1 (by decide)
 have c:=h.cb.other h1 (by decide)
 have t:=h.tb.other h1 (by decide)
 have s:=h.sb.other h1 (by decide)
 exact ⟨Sl.setRow h.o o cs,Sl.setRow h.c c cs,Sl.setRow h.t t cs,Sl.setRow h.s s cs,h.oc,h.cc,h.tc,h.sc,h.ob.setRow o cs,h.cb.setRow c cs,h.tb.setRow t cs,h.sb.setRow s cs⟩
theorem results_cell_tmp {P : Program} {fn : Func} {p k : Tmp} {ty : TypeId} (h : fn.results = #[.cell p ty, .tmp k]) (tmps : Array Value) (w : World) (g : Nat) (t : TypeId) (cs : Array Value) (fr : Nat × Nat) (d : TypeDesc) {v : Value}
    (hp:tmps.getD p undef=.pointer (some ⟨g,0,none⟩)) (hg:w.heap[g]?=some (.cells cs t fr))
    (hu:P.underlying ty=some d) (hd:(match d with | .struct _ | .array _ _=>true | _=>false)=true) (hi:(P.info? ty).map (·.size)=some cs.size) (hk:tmps.getD k undef=v) :
    (results fn tmps).run P w=.ok (.tuple #[.agg cs,v]) w:=by
 subst hk
 have hp':tmps[p]?.getD undef=.pointer (some ⟨g,0,none⟩):=by simpa using hp
 simp [results,h,hp',asAddr,run_loadVar_row w g t ty cs fr d hg hu hd hi]
def DecPost (it:It.Item) (er:Int) (e:Ending) (w':World):Prop :=
 (er=0→∃ L,e=.returned (.tuple #[It.agg it L,.int .i64 0])∧InX w' it L)∧(er≠0→e=.returned (.tuple #[.agg #[.int .i64 0,.int .i64 0,.int .i64 0,.string ⟨#[]⟩,.slice none 0 0,.slice none 0 0,.int .i64 0,.int .i64 0,.slice none 0 0,.int .i64 0,.string ⟨#[]⟩,.int .i64 0,.int .i64 0,.int .i64 0,.int .i64 0,.slice none 0 0,.int .i64 0],.int .i64 er]))
set_option maxRecDepth 100000 in
set_option maxHeartbeats 64000000 in
theorem decode_lit (B d : Nat) (t kd n : Int) (s : ByteArray) (y0 y1 y2 y3 y4 y5 y6 y7 y8 y9 y10 y11 y12 y13 y14 y15 y16 : Nd) (M : Option Addr × Nat) (w : World) (hK : KidsAt B 0 (d + 2) w M [y0, y1, y2, y3, y4, y5, y6, y7, y8, y9, y10, y11, y12, y13, y14, y15, y16]) (hz : SzOk 2 (.mk t kd n s [y0, y1, y2, y3, y4, y5, y6, y7, y8, y9, y10, y11, y12, y13, y14, y15, y16])) (hT : isTr (.mk t kd n s [y0, y1, y2, y3, y4, y5, y6, y7, y8, y9, y10, y11, y12, y13, y14, y15, y16]) = true) (hk : ∀ y ∈ [y0, y1, y2, y3, y4, y5, y6, y7, y8, y9, y10, y11, y12, y13, y14, y15, y16], (Nd.kids y).length ≤ 2199023255552) (er : Int)
    (hval:∀ L w,InX w ⟨y0.n,y1.n,y2.n,y3.s,y4.kids.map Nd.s,y5.kids.map Nd.n,y6.n,y7.n,y8.kids.map Nd.s,y9.n,y10.s,y11.n,y12.n,y13.n,y14.n,y15.kids.map Nd.n,y16.n⟩ L→Gm w→Calls Tryz.prog 50 #[It.agg ⟨y0.n,y1.n,y2.n,y3.s,y4.kids.map Nd.s,y5.kids.map Nd.n,y6.n,y7.n,y8.kids.map Nd.s,y9.n,y10.s,y11.n,y12.n,y13.n,y14.n,y15.kids.map Nd.n,y16.n⟩ L] w fun e w'=>e=.returned (.int .i64 er)∧Ext w w') (hg:Gm w) :
    Calls Tryz.prog 79 #[nda (.mk t kd n s [y0,y1,y2,y3,y4,y5,y6,y7,y8,y9,y10,y11,y12,y13,y14,y15,y16]) M] w fun e w'=>DecPost ⟨y0.n,y1.n,y2.n,y3.s,y4.kids.map Nd.s,y5.kids.map Nd.n,y6.n,y7.n,y8.kids.map Nd.s,y9.n,y10.s,y11.n,y12.n,y13.n,y14.n,y15.kids.map Nd.n,y16.n⟩ er e w'∧Ext w w':=by
 have HZ:=Hi hz
 have HK:=Hi hK
 have HT:=Hi hT
 have HG:=Hi hg
 have HVAL:=Hi hval
 have HKL:=Hi hk
 clear hz hT hg hval hk
 obtain ⟨A,c⟩:=M
 obtain ⟨b,off,N0,hA,hb,-,-,m0,-,-,-⟩:=hK.at_ (i:=0) (x:=y0) rfl
 dsimp only at hA
 subst hA

 obtain ⟨b1,o1,N1',e1,-,-,-,m1,-,-,-⟩:=hK.at_ (i:=1) (x:=y1) rfl
 obtain ⟨rfl,rfl⟩:b=b1∧off=o1:=by cases e1;exact ⟨rfl,rfl⟩
 clear e1
 obtain ⟨b2,o2,N2',e2,-,-,-,m2,-,-,-⟩:=hK.at_ (i:=2) (x:=y2) rfl
 obtain ⟨rfl,rfl⟩:b=b2∧off=o2:=by cases e2;exact ⟨rfl,rfl⟩
 clear e2
 obtain ⟨b3,o3,N3',e3,-,-,-,-,m3,-,-⟩:=hK.at_ (i:=3) (x:=y3) rfl
 obtain ⟨rfl,rfl⟩:b=b3∧off=o3:=by cases e3;exact ⟨rfl,rfl⟩
 clear e3
 obtain ⟨b4,o4,N4,e4,-,p4,r4,s4,t4,m4,K4⟩:=hK.at_ (i:=4) (x:=y4) rfl
 obtain ⟨rfl,rfl⟩:b=b4∧off=o4:=by cases e4;exact ⟨rfl,rfl⟩
 clear e4
 have HKK4:=Hi K4
 clear K4
 obtain ⟨b5,o5,N5,e5,-,p5,r5,s5,t5,m5,K5⟩:=hK.at_ (i:=5) (x:=y5) rfl
 obtain ⟨rfl,rfl⟩:b=b5∧off=o5:=by cases e5;exact ⟨rfl,rfl⟩
 clear e5
 have HKK5:=Hi K5
 clear K5
 obtain ⟨b6,o6,N6',e6,-,-,-,m6,-,-,-⟩:=hK.at_ (i:=6) (x:=y6) rfl
 obtain ⟨rfl,rfl⟩:b=b6∧off=o6:=by cases e6;exact ⟨rfl,rfl⟩
 clear e6
 obtain ⟨b7,o7,N7',e7,-,-,-,m7,-,-,-⟩:=hK.at_ (i:=7) (x:=y7) rfl
 obtain ⟨rfl,rfl⟩:b=b7∧off=o7:=by cases e7;exact ⟨rfl,rfl⟩
 clear e7
 obtain ⟨b8,o8,N8,e8,-,p8,r8,s8,t8,m8,K8⟩:=hK.at_ (i:=8) (x:=y8) rfl
 obtain ⟨rfl,rfl⟩:b=b8∧off=o8:=by cases e8;exact ⟨rfl,rfl⟩
 clear e8
 have HKK8:=Hi K8
 clear K8
 obtain ⟨b9,o9,N9',e9,-,-,-,m9,-,-,-⟩:=hK.at_ (i:=9) (x:=y9) rfl
 obtain ⟨rfl,rfl⟩:b=b9∧off=o9:=by cases e9;exact ⟨rfl,rfl⟩
 clear e9
 obtain ⟨b10,o10,N10',e10,-,-,-,-,m10,-,-⟩:=hK.at_ (i:=10) (x:=y10) rfl
 obtain ⟨rfl,rfl⟩:b=b10∧off=o10:=by cases e10;exact ⟨rfl,rfl⟩
 clear e10
 obtain ⟨b11,o11,N11',e11,-,-,-,m11,-,-,-⟩:=hK.at_ (i:=11) (x:=y11) rfl
 obtain ⟨rfl,rfl⟩:b=b11∧off=o11:=by cases e11;exact ⟨rfl,rfl⟩
 clear e11
 obtain ⟨b12,o12,N12',e12,-,-,-,m12,-,-,-⟩:=hK.at_ (i:=12) (x:=y12) rfl
 obtain ⟨rfl,rfl⟩:b=b12∧off=o12:=by cases e12;exact ⟨rfl,rfl⟩
 clear e12
 obtain ⟨b13,o13,N13',e13,-,-,-,m13,-,-,-⟩:=hK.at_ (i:=13) (x:=y13) rfl
 obtain ⟨rfl,rfl⟩:b=b13∧off=o13:=by cases e13;exact ⟨rfl,rfl⟩
 clear e13
 obtain ⟨b14,o14,N14',e14,-,-,-,m14,-,-,-⟩:=hK.at_ (i:=14) (x:=y14) rfl
 obtain ⟨rfl,rfl⟩:b=b14∧off=o14:=by cases e14;exact ⟨rfl,rfl⟩
 clear e14
 obtain ⟨b15,o15,N15,e15,-,p15,r15,s15,t15,m15,K15⟩:=hK.at_ (i:=15) (x:=y15) rfl
 obtain ⟨rfl,rfl⟩:b=b15∧off=o15:=by cases e15;exact ⟨rfl,rfl⟩
 clear e15
 have HKK15:=Hi K15
 clear K15
 obtain ⟨b16,o16,N16',e16,-,-,-,m16,-,-,-⟩:=hK.at_ (i:=16) (x:=y16) rfl
 obtain ⟨rfl,rfl⟩:b=b16∧off=o16:=by cases e16;exact ⟨rfl,rfl⟩
 clear e16
 have EN:=Hi (enters_of Tryz.func109 (by kernel_rfl) rfl)
 have ET:=Hi (enters_of Tryz.func110 (by kernel_rfl) rfl)
 have EI:=Hi (enters_of Tryz.func111 (by kernel_rfl) rfl)
 have M0:Hid (w.cell? ⟨b,off+0*5+2,none⟩=some (.int .i64 y0.n)):=Hi m0
 have M1:Hid (w.cell? ⟨b,off+1*5+2,none⟩=some (.int .i64 y1.n)):=Hi m1
 have M2:Hid (w.cell? ⟨b,off+2*5+2,none⟩=some (.int .i64 y2.n)):=Hi m2
 have M3:Hid (w.cell? ⟨b,off+18,none⟩=some (.string y3.s)):=Hi m3
 have P4:Hid (w.cell? ⟨b,off+20,none⟩=some (.int .i64 y4.tag)∧w.cell? ⟨b,off+21,none⟩=some (.int .i64 y4.kind)∧w.cell? ⟨b,off+22,none⟩=some (.int .i64 y4.n)∧w.cell? ⟨b,off+23,none⟩=some (.string y4.s)∧w.cell? ⟨b,off+24,none⟩=some (.slice N4.1 y4.kids.length N4.2)):=Hi ⟨p4,r4,s4,t4,m4⟩
 clear p4 r4 s4 t4
 have P5:Hid (w.cell? ⟨b,off+25,none⟩=some (.int .i64 y5.tag)∧w.cell? ⟨b,off+26,none⟩=some (.int .i64 y5.kind)∧w.cell? ⟨b,off+27,none⟩=some (.int .i64 y5.n)∧w.cell? ⟨b,off+28,none⟩=some (.string y5.s)∧w.cell? ⟨b,off+29,none⟩=some (.slice N5.1 y5.kids.length N5.2)):=Hi ⟨p5,r5,s5,t5,m5⟩
 clear p5 r5 s5 t5
 have M6:Hid (w.cell? ⟨b,off+6*5+2,none⟩=some (.int .i64 y6.n)):=Hi m6
 have M7:Hid (w.cell? ⟨b,off+7*5+2,none⟩=some (.int .i64 y7.n)):=Hi m7
 have P8:Hid (w.cell? ⟨b,off+40,none⟩=some (.int .i64 y8.tag)∧w.cell? ⟨b,off+41,none⟩=some (.int .i64 y8.kind)∧w.cell? ⟨b,off+42,none⟩=some (.int .i64 y8.n)∧w.cell? ⟨b,off+43,none⟩=some (.string y8.s)∧w.cell? ⟨b,off+44,none⟩=some (.slice N8.1 y8.kids.length N8.2)):=Hi ⟨p8,r8,s8,t8,m8⟩
 clear p8 r8 s8 t8
 have M9:Hid (w.cell? ⟨b,off+9*5+2,none⟩=some (.int .i64 y9.n)):=Hi m9
 have M10:Hid (w.cell? ⟨b,off+53,none⟩=some (.string y10.s)):=Hi m10
 have M11:Hid (w.cell? ⟨b,off+11*5+2,none⟩=some (.int .i64 y11.n)):=Hi m11
 have M12:Hid (w.cell? ⟨b,off+12*5+2,none⟩=some (.int .i64 y12.n)):=Hi m12
 have M13:Hid (w.cell? ⟨b,off+13*5+2,none⟩=some (.int .i64 y13.n)):=Hi m13
 have M14:Hid (w.cell? ⟨b,off+14*5+2,none⟩=some (.int .i64 y14.n)):=Hi m14
 have P15:Hid (w.cell? ⟨b,off+75,none⟩=some (.int .i64 y15.tag)∧w.cell? ⟨b,off+76,none⟩=some (.int .i64 y15.kind)∧w.cell? ⟨b,off+77,none⟩=some (.int .i64 y15.n)∧w.cell? ⟨b,off+78,none⟩=some (.string y15.s)∧w.cell? ⟨b,off+79,none⟩=some (.slice N15.1 y15.kids.length N15.2)):=Hi ⟨p15,r15,s15,t15,m15⟩
 clear p15 r15 s15 t15
 have M16:Hid (w.cell? ⟨b,off+16*5+2,none⟩=some (.int .i64 y16.n)):=Hi m16
 clear m0 m1 m2 m3 m4 m5 m6 m7 m8 m9 m10 m11 m12 m13 m14 m15 m16 hK
 have hN:Nd.kids (.mk t kd n s [y0,y1,y2,y3,y4,y5,y6,y7,y8,y9,y10,y11,y12,y13,y14,y15,y16])=[y0,y1,y2,y3,y4,y5,y6,y7,y8,y9,y10,y11,y12,y13,y14,y15,y16]:=rfl
 clear hN
 simp only [nda,Nd.tag,Nd.kind,Nd.n,Nd.s,Nd.kids,List.length_cons,List.length_nil,Nat.reduceAdd]
 go_enter Tryz.func79,Tryz.ntmps79
 go_wp2_with fail
 refine (isTree_v B d (.mk t kd n s [y0,y1,y2,y3,y4,y5,y6,y7,y8,y9,y10,y11,y12,y13,y14,y15,y16]) (some ⟨b,off,none⟩,c) HT.out _ (HK.out.ext (((Ext.refl _).alloc _).alloc _)) HZ.out).mono ?_
 rintro e w1 ⟨rfl,hb1⟩
 have hbx:Ext (w.alloc (.cells #[.int .i64 t,.int .i64 kd,.int .i64 n,.string s,.slice (some ⟨b,off,none⟩) 17 c] 52)) w1:=((Ext.refl _).alloc _).trans hb1
 have HB4:Hid (w1.cell? ⟨w.heap.size,4,none⟩=some (.slice (some ⟨b,off,none⟩) 17 c)):=Hi (block5 hbx).1.2.2.2.2
 have HBR:Hid (BlkI w1 (w.heap.size+1)):=Hi (BlkI.ext (w:=(w.alloc (.cells #[.int .i64 t,.int .i64 kd,.int .i64 n,.string s,.slice (some ⟨b,off,none⟩) 17 c] 52)).alloc (.cells #[.int .i64 0,.int .i64 0,.int .i64 0,.string ⟨#[]⟩,.slice none 0 0,.slice none 0 0,.int .i64 0,.int .i64 0,.slice none 0 0,.int .i64 0,.string ⟨#[]⟩,.int .i64 0,.int .i64 0,.int .i64 0,.int .i64 0,.slice none 0 0,.int .i64 0] 45)) ⟨_,heap_new_at _ _ _ (by simp),rfl⟩ hb1)
 have X1:Hid (Ext w w1):=Hi (((Ext.refl w).alloc _).trans hbx)
 have HZ1:Hid (w.heap.size+2≤w1.heap.size):=Hi (by have:=hb1.size;simp at this;omega)
 clear hbx hb1
 go_wp2_with fail
 refine region_tb (by kernel_rfl) (by decide +kernel) (decE w.heap.size) ⟨rfl,rfl,rfl⟩ 56 decD (fun _=>none) (decR w.heap.size b off c y0 y1 y2 y3 y4 y5 y6 y7 y8 y9 y10 y11 y12 y13 y14 y15 y16 N4 N5 N8 N15) w X1.out (fun i h1 h2=>by
  have h1':55≤i:=h1
  obtain rfl:i=55:=by omega
  exact ⟨HZ1.out,HB4.out,HBR.out.ext ((Ext.refl _).drew)⟩) ?_ ?_
 · intro T dd l U wz i o hE ho hl hd hT
   obtain ⟨t1,t4,tz⟩:=hE
   obtain ⟨hg2,hbox,hres⟩:w.heap.size+2≤wz.heap.size∧wz.cell? ⟨w.heap.size,4,none⟩=some (.slice (some ⟨b,off,none⟩) 17 c)∧BlkI wz (w.heap.size+1):=hT.facts 55 (by decide) (hT.past 55 (Nat.le_refl 55)) (fun c e=>by cases e)
   have hx:=hT.ext
   match i,ho,hl,hd with
   | 0,ho,hl,hd =>
    obtain rfl:=Option.some.inj ho
    have v4:=eval_old (d:=dd) (hT.out 4 (by decide)) (by omega) t4
    refine tb_pure (v:=.func (.func 109) #[] #[.pointer (some ⟨w.heap.size,0,none⟩)]) hT ho hd rfl rfl (by decide) (by decide) ?_ rfl
    generalize Act.eval ⟨over T U,dd⟩=ev at *
    simp [execOp,v4,go_sem]
   | 1,ho,hl,hd =>
    obtain rfl:=Option.some.inj ho
    have f0:U 12=some (.func (.func 109) #[] #[.pointer (some ⟨w.heap.size,0,none⟩)]):=hT.facts 0 (by decide) (dep hd 0 (by kernel_rfl)) (fun c e=>by cases e)
    have v0:Act.eval ⟨over T U,dd⟩ (.tmp 12)=_:=eval_new (t:=T) (d:=dd) f0 (by show 12<T.size;omega)
    refine tb_call (f:=109) (args:=#[.int .i64 1,.pointer (some ⟨w.heap.size,0,none⟩)]) (decR_ext w.heap.size b off c y0 y1 y2 y3 y4 y5 y6 y7 y8 y9 y10 y11 y12 y13 y14 y15 y16 N4 N5 N8 N15) hT ho hd rfl rfl (by decide) (by decide) (exec_callc rfl v0 rfl EN.out) ?_
    refine (number_to (t:=1) (K:=0) rfl wz hbox (hx.keep M0.out) (by omega) (by omega)).mono ?_
    rintro e w' ⟨rfl,rfl⟩
    exact ⟨_,rfl,Ext.refl _,rfl⟩
   | 2,ho,hl,hd =>
    obtain rfl:=Option.some.inj ho
    have v4:=eval_old (d:=dd) (hT.out 4 (by decide)) (by omega) t4
    refine tb_pure (v:=.func (.func 109) #[] #[.pointer (some ⟨w.heap.size,0,none⟩)]) hT ho hd rfl rfl (by decide) (by decide) ?_ rfl
    generalize Act.eval ⟨over T U,dd⟩=ev at *
    simp [execOp,v4,go_sem]
   | 3,ho,hl,hd =>
    obtain rfl:=Option.some.inj ho
    have f0:U 14=some (.func (.func 109) #[] #[.pointer (some ⟨w.heap.size,0,none⟩)]):=hT.facts 2 (by decide) (dep hd 2 (by kernel_rfl)) (fun c e=>by cases e)
    have v0:Act.eval ⟨over T U,dd⟩ (.tmp 14)=_:=eval_new (t:=T) (d:=dd) f0 (by show 14<T.size;omega)
    refine tb_call (f:=109) (args:=#[.int .i64 2,.pointer (some ⟨w.heap.size,0,none⟩)]) (decR_ext w.heap.size b off c y0 y1 y2 y3 y4 y5 y6 y7 y8 y9 y10 y11 y12 y13 y14 y15 y16 N4 N5 N8 N15) hT ho hd rfl rfl (by decide) (by decide) (exec_callc rfl v0 rfl EN.out) ?_
    refine (number_to (t:=2) (K:=1) rfl wz hbox (hx.keep M1.out) (by omega) (by omega)).mono ?_
    rintro e w' ⟨rfl,rfl⟩
    exact ⟨_,rfl,Ext.refl _,rfl⟩
   | 4,ho,hl,hd =>
    obtain rfl:=Option.some.inj ho
    have v4:=eval_old (d:=dd) (hT.out 4 (by decide)) (by omega) t4
    refine tb_pure (v:=.func (.func 109) #[] #[.pointer (some ⟨w.heap.size,0,none⟩)]) hT ho hd rfl rfl (by decide) (by decide) ?_ rfl
    generalize Act.eval ⟨over T U,dd⟩=ev at *
    simp [execOp,v4,go_sem]
   | 5,ho,hl,hd =>
    obtain rfl:=Option.some.inj ho
    have f0:U 16=some (.func (.func 109) #[] #[.pointer (some ⟨w.heap.size,0,none⟩)]):=hT.facts 4 (by decide) (dep hd 4 (by kernel_rfl)) (fun c e=>by cases e)
    have v0:Act.eval ⟨over T U,dd⟩ (.tmp 16)=_:=eval_new (t:=T) (d:=dd) f0 (by show 16<T.size;omega)
    refine tb_call (f:=109) (args:=#[.int .i64 3,.pointer (some ⟨w.heap.size,0,none⟩)]) (decR_ext w.heap.size b off c y0 y1 y2 y3 y4 y5 y6 y7 y8 y9 y10 y11 y12 y13 y14 y15 y16 N4 N5 N8 N15) hT ho hd rfl rfl (by decide) (by decide) (exec_callc rfl v0 rfl EN.out) ?_
    refine (number_to (t:=3) (K:=2) rfl wz hbox (hx.keep M2.out) (by omega) (by omega)).mono ?_
    rintro e w' ⟨rfl,rfl⟩
    exact ⟨_,rfl,Ext.refl _,rfl⟩
   | 6,ho,hl,hd =>
    obtain rfl:=Option.some.inj ho
    have v1:=eval_old (d:=dd) (hT.out 1 (by decide)) (by omega) t1
    refine tb_pure (v:=.pointer (some ⟨w.heap.size,4,none⟩)) hT ho hd rfl rfl (by decide) (by decide) ?_ rfl
    generalize Act.eval ⟨over T U,dd⟩=ev at *
    simp [execOp,v1,go_sem]
   | 7,ho,hl,hd =>
    obtain rfl:=Option.some.inj ho
    have f0:U 18=some (.pointer (some ⟨w.heap.size,4,none⟩)):=hT.facts 6 (by decide) (dep hd 6 (by kernel_rfl)) (fun c e=>by cases e)
    have v0:Act.eval ⟨over T U,dd⟩ (.tmp 18)=_:=eval_new (t:=T) (d:=dd) f0 (by show 18<T.size;omega)
    refine tb_pure (v:=.slice (some ⟨b,off,none⟩) 17 c) hT ho hd rfl rfl (by decide) (by decide) ?_ rfl
    generalize Act.eval ⟨over T U,dd⟩=ev at *
    simp [execOp,v0,go_sem,hbox]
   | 8,ho,hl,hd =>
    obtain rfl:=Option.some.inj ho
    have f0:U 19=some (.slice (some ⟨b,off,none⟩) 17 c):=hT.facts 7 (by decide) (dep hd 7 (by kernel_rfl)) (fun c e=>by cases e)
    have v0:Act.eval ⟨over T U,dd⟩ (.tmp 19)=_:=eval_new (t:=T) (d:=dd) f0 (by show 19<T.size;omega)
    have vc:Act.eval ⟨over T U,dd⟩ (.const (.int .i64 3))=.int .i64 3:=rfl
    refine tb_pure (v:=.pointer (some ⟨b,off+15,none⟩)) hT ho hd rfl rfl (by decide) (by decide) ?_ rfl
    generalize Act.eval ⟨over T U,dd⟩=ev at *
    simp [execOp,v0,vc,go_sem]
   | 9,ho,hl,hd =>
    obtain rfl:=Option.some.inj ho
    have f0:U 20=some (.pointer (some ⟨b,off+15,none⟩)):=hT.facts 8 (by decide) (dep hd 8 (by kernel_rfl)) (fun c e=>by cases e)
    have v0:Act.eval ⟨over T U,dd⟩ (.tmp 20)=_:=eval_new (t:=T) (d:=dd) f0 (by show 20<T.size;omega)
    refine tb_pure (v:=.pointer (some ⟨b,off+18,none⟩)) hT ho hd rfl rfl (by decide) (by decide) ?_ rfl
    generalize Act.eval ⟨over T U,dd⟩=ev at *
    simp [execOp,v0,go_sem]
   | 10,ho,hl,hd =>
    obtain rfl:=Option.some.inj ho
    have f0:U 21=some (.pointer (some ⟨b,off+18,none⟩)):=hT.facts 9 (by decide) (dep hd 9 (by kernel_rfl)) (fun c e=>by cases e)
    have v0:Act.eval ⟨over T U,dd⟩ (.tmp 21)=_:=eval_new (t:=T) (d:=dd) f0 (by show 21<T.size;omega)
    have hc:=hx.keep M3.out
    refine tb_pure (v:=.string y3.s) hT ho hd rfl rfl (by decide) (by decide) ?_ rfl
    generalize Act.eval ⟨over T U,dd⟩=ev at *
    simp [execOp,v0,go_sem,hc]
   | 11,ho,hl,hd =>
    obtain rfl:=Option.some.inj ho
    have v1:=eval_old (d:=dd) (hT.out 1 (by decide)) (by omega) t1
    refine tb_pure (v:=.pointer (some ⟨w.heap.size,4,none⟩)) hT ho hd rfl rfl (by decide) (by decide) ?_ rfl
    generalize Act.eval ⟨over T U,dd⟩=ev at *
    simp [execOp,v1,go_sem]
   | 12,ho,hl,hd =>
    obtain rfl:=Option.some.inj ho
    have f0:U 23=some (.pointer (some ⟨w.heap.size,4,none⟩)):=hT.facts 11 (by decide) (dep hd 11 (by kernel_rfl)) (fun c e=>by cases e)
    have v0:Act.eval ⟨over T U,dd⟩ (.tmp 23)=_:=eval_new (t:=T) (d:=dd) f0 (by show 23<T.size;omega)
    refine tb_pure (v:=.slice (some ⟨b,off,none⟩) 17 c) hT ho hd rfl rfl (by decide) (by decide) ?_ rfl
    generalize Act.eval ⟨over T U,dd⟩=ev at *
    simp [execOp,v0,go_sem,hbox]
   | 13,ho,hl,hd =>
    obtain rfl:=Option.some.inj ho
    have f0:U 24=some (.slice (some ⟨b,off,none⟩) 17 c):=hT.facts 12 (by decide) (dep hd 12 (by kernel_rfl)) (fun c e=>by cases e)
    have v0:Act.eval ⟨over T U,dd⟩ (.tmp 24)=_:=eval_new (t:=T) (d:=dd) f0 (by show 24<T.size;omega)
    have vc:Act.eval ⟨over T U,dd⟩ (.const (.int .i64 4))=.int .i64 4:=rfl
    refine tb_pure (v:=.pointer (some ⟨b,off+20,none⟩)) hT ho hd rfl rfl (by decide) (by decide) ?_ rfl
    generalize Act.eval ⟨over T U,dd⟩=ev at *
    simp [execOp,v0,vc,go_sem]
   | 14,ho,hl,hd =>
    obtain rfl:=Option.some.inj ho
    have f0:U 25=some (.pointer (some ⟨b,off+20,none⟩)):=hT.facts 13 (by decide) (dep hd 13 (by kernel_rfl)) (fun c e=>by cases e)
    have v0:Act.eval ⟨over T U,dd⟩ (.tmp 25)=_:=eval_new (t:=T) (d:=dd) f0 (by show 25<T.size;omega)
    have h0:=hx.keep P4.out.1
    have h1:=hx.keep P4.out.2.1
    have h2:=hx.keep P4.out.2.2.1
    have h3:=hx.keep P4.out.2.2.2.1
    have h4:=hx.keep P4.out.2.2.2.2
    refine tb_pure (v:=.agg #[.int .i64 y4.tag,.int .i64 y4.kind,.int .i64 y4.n,.string y4.s,.slice N4.1 y4.kids.length N4.2]) hT ho hd rfl rfl (by decide) (by decide) ?_ rfl
    generalize Act.eval ⟨over T U,dd⟩=ev at *
    simp [execOp,v0,go_sem,h0,h1,h2,h3,h4]
   | 15,ho,hl,hd =>
    obtain rfl:=Option.some.inj ho
    have f0:U 26=some (.agg #[.int .i64 y4.tag,.int .i64 y4.kind,.int .i64 y4.n,.string y4.s,.slice N4.1 y4.kids.length N4.2]):=hT.facts 14 (by decide) (dep hd 14 (by kernel_rfl)) (fun c e=>by cases e)
    have v0:Act.eval ⟨over T U,dd⟩ (.tmp 26)=_:=eval_new (t:=T) (d:=dd) f0 (by show 26<T.size;omega)
    refine tb_call (f:=110) (args:=#[.agg #[.int .i64 y4.tag,.int .i64 y4.kind,.int .i64 y4.n,.string y4.s,.slice N4.1 y4.kids.length N4.2]]) (decR_ext w.heap.size b off c y0 y1 y2 y3 y4 y5 y6 y7 y8 y9 y10 y11 y12 y13 y14 y15 y16 N4 N5 N8 N15) hT ho hd rfl rfl (by decide) (by decide) (exec_call1 rfl rfl v0 ET.out) ?_
    refine (textsOf_any B d y4 N4 wz (HKK4.out.ext hx) (Nat.le_trans (HKL.out y4 (by simp)) (by omega))).mono ?_
    rintro e w' ⟨⟨A',c',rfl,h1,h2,h3,h4⟩,hb⟩
    exact ⟨_,rfl,hb,A',c',rfl,h1,h2,h3,h4⟩
   | 16,ho,hl,hd =>
    obtain rfl:=Option.some.inj ho
    have v1:=eval_old (d:=dd) (hT.out 1 (by decide)) (by omega) t1
    refine tb_pure (v:=.pointer (some ⟨w.heap.size,4,none⟩)) hT ho hd rfl rfl (by decide) (by decide) ?_ rfl
    generalize Act.eval ⟨over T U,dd⟩=ev at *
    simp [execOp,v1,go_sem]
   | 17,ho,hl,hd =>
    obtain rfl:=Option.some.inj ho
    have f0:U 28=some (.pointer (some ⟨w.heap.size,4,none⟩)):=hT.facts 16 (by decide) (dep hd 16 (by kernel_rfl)) (fun c e=>by cases e)
    have v0:Act.eval ⟨over T U,dd⟩ (.tmp 28)=_:=eval_new (t:=T) (d:=dd) f0 (by show 28<T.size;omega)
    refine tb_pure (v:=.slice (some ⟨b,off,none⟩) 17 c) hT ho hd rfl rfl (by decide) (by decide) ?_ rfl
    generalize Act.eval ⟨over T U,dd⟩=ev at *
    simp [execOp,v0,go_sem,hbox]
   | 18,ho,hl,hd =>
    obtain rfl:=Option.some.inj ho
    have f0:U 29=some (.slice (some ⟨b,off,none⟩) 17 c):=hT.facts 17 (by decide) (dep hd 17 (by kernel_rfl)) (fun c e=>by cases e)
    have v0:Act.eval ⟨over T U,dd⟩ (.tmp 29)=_:=eval_new (t:=T) (d:=dd) f0 (by show 29<T.size;omega)
    have vc:Act.eval ⟨over T U,dd⟩ (.const (.int .i64 5))=.int .i64 5:=rfl
    refine tb_pure (v:=.pointer (some ⟨b,off+25,none⟩)) hT ho hd rfl rfl (by decide) (by decide) ?_ rfl
    generalize Act.eval ⟨over T U,dd⟩=ev at *
    simp [execOp,v0,vc,go_sem]
   | 19,ho,hl,hd =>
    obtain rfl:=Option.some.inj ho
    have f0:U 30=some (.pointer (some ⟨b,off+25,none⟩)):=hT.facts 18 (by decide) (dep hd 18 (by kernel_rfl)) (fun c e=>by cases e)
    have v0:Act.eval ⟨over T U,dd⟩ (.tmp 30)=_:=eval_new (t:=T) (d:=dd) f0 (by show 30<T.size;omega)
    have h0:=hx.keep P5.out.1
    have h1:=hx.keep P5.out.2.1
    have h2:=hx.keep P5.out.2.2.1
    have h3:=hx.keep P5.out.2.2.2.1
    have h4:=hx.keep P5.out.2.2.2.2
    refine tb_pure (v:=.agg #[.int .i64 y5.tag,.int .i64 y5.kind,.int .i64 y5.n,.string y5.s,.slice N5.1 y5.kids.length N5.2]) hT ho hd rfl rfl (by decide) (by decide) ?_ rfl
    generalize Act.eval ⟨over T U,dd⟩=ev at *
    simp [execOp,v0,go_sem,h0,h1,h2,h3,h4]
   | 20,ho,hl,hd =>
    obtain rfl:=Option.some.inj ho
    have f0:U 31=some (.agg #[.int .i64 y5.tag,.int .i64 y5.kind,.int .i64 y5.n,.string y5.s,.slice N5.1 y5.kids.length N5.2]):=hT.facts 19 (by decide) (dep hd 19 (by kernel_rfl)) (fun c e=>by cases e)
    have v0:Act.eval ⟨over T U,dd⟩ (.tmp 31)=_:=eval_new (t:=T) (d:=dd) f0 (by show 31<T.size;omega)
    refine tb_call (f:=111) (args:=#[.agg #[.int .i64 y5.tag,.int .i64 y5.kind,.int .i64 y5.n,.string y5.s,.slice N5.1 y5.kids.length N5.2]]) (decR_ext w.heap.size b off c y0 y1 y2 y3 y4 y5 y6 y7 y8 y9 y10 y11 y12 y13 y14 y15 y16 N4 N5 N8 N15) hT ho hd rfl rfl (by decide) (by decide) (exec_call1 rfl rfl v0 EI.out) ?_
    refine (numbersOf_any B d y5 N5 wz (HKK5.out.ext hx) (Nat.le_trans (HKL.out y5 (by simp)) (by omega))).mono ?_
    rintro e w' ⟨⟨A',c',rfl,h1,h2,h3,h4⟩,hb⟩
    exact ⟨_,rfl,hb,A',c',rfl,h1,h2,h3,h4⟩
   | 21,ho,hl,hd =>
    obtain rfl:=Option.some.inj ho
    have v4:=eval_old (d:=dd) (hT.out 4 (by decide)) (by omega) t4
    refine tb_pure (v:=.func (.func 109) #[] #[.pointer (some ⟨w.heap.size,0,none⟩)]) hT ho hd rfl rfl (by decide) (by decide) ?_ rfl
    generalize Act.eval ⟨over T U,dd⟩=ev at *
    simp [execOp,v4,go_sem]
   | 22,ho,hl,hd =>
    obtain rfl:=Option.some.inj ho
    have f0:U 33=some (.func (.func 109) #[] #[.pointer (some ⟨w.heap.size,0,none⟩)]):=hT.facts 21 (by decide) (dep hd 21 (by kernel_rfl)) (fun c e=>by cases e)
    have v0:Act.eval ⟨over T U,dd⟩ (.tmp 33)=_:=eval_new (t:=T) (d:=dd) f0 (by show 33<T.size;omega)
    refine tb_call (f:=109) (args:=#[.int .i64 7,.pointer (some ⟨w.heap.size,0,none⟩)]) (decR_ext w.heap.size b off c y0 y1 y2 y3 y4 y5 y6 y7 y8 y9 y10 y11 y12 y13 y14 y15 y16 N4 N5 N8 N15) hT ho hd rfl rfl (by decide) (by decide) (exec_callc rfl v0 rfl EN.out) ?_
    refine (number_to (t:=7) (K:=6) rfl wz hbox (hx.keep M6.out) (by omega) (by omega)).mono ?_
    rintro e w' ⟨rfl,rfl⟩
    exact ⟨_,rfl,Ext.refl _,rfl⟩
   | 23,ho,hl,hd =>
    obtain rfl:=Option.some.inj ho
    have v4:=eval_old (d:=dd) (hT.out 4 (by decide)) (by omega) t4
    refine tb_pure (v:=.func (.func 109) #[] #[.pointer (some ⟨w.heap.size,0,none⟩)]) hT ho hd rfl rfl (by decide) (by decide) ?_ rfl
    generalize Act.eval ⟨over T U,dd⟩=ev at *
    simp [execOp,v4,go_sem]
   | 24,ho,hl,hd =>
    obtain rfl:=Option.some.inj ho
    have f0:U 35=some (.func (.func 109) #[] #[.pointer (some ⟨w.heap.size,0,none⟩)]):=hT.facts 23 (by decide) (dep hd 23 (by kernel_rfl)) (fun c e=>by cases e)
    have v0:Act.eval ⟨over T U,dd⟩ (.tmp 35)=_:=eval_new (t:=T) (d:=dd) f0 (by show 35<T.size;omega)
    refine tb_call (f:=109) (args:=#[.int .i64 8,.pointer (some ⟨w.heap.size,0,none⟩)]) (decR_ext w.heap.size b off c y0 y1 y2 y3 y4 y5 y6 y7 y8 y9 y10 y11 y12 y13 y14 y15 y16 N4 N5 N8 N15) hT ho hd rfl rfl (by decide) (by decide) (exec_callc rfl v0 rfl EN.out) ?_
    refine (number_to (t:=8) (K:=7) rfl wz hbox (hx.keep M7.out) (by omega) (by omega)).mono ?_
    rintro e w' ⟨rfl,rfl⟩
    exact ⟨_,rfl,Ext.refl _,rfl⟩
   | 25,ho,hl,hd =>
    obtain rfl:=Option.some.inj ho
    have v1:=eval_old (d:=dd) (hT.out 1 (by decide)) (by omega) t1
    refine tb_pure (v:=.pointer (some ⟨w.heap.size,4,none⟩)) hT ho hd rfl rfl (by decide) (by decide) ?_ rfl
    generalize Act.eval ⟨over T U,dd⟩=ev at *
    simp [execOp,v1,go_sem]
   | 26,ho,hl,hd =>
    obtain rfl:=Option.some.inj ho
    have f0:U 37=some (.pointer (some ⟨w.heap.size,4,none⟩)):=hT.facts 25 (by decide) (dep hd 25 (by kernel_rfl)) (fun c e=>by cases e)
    have v0:Act.eval ⟨over T U,dd⟩ (.tmp 37)=_:=eval_new (t:=T) (d:=dd) f0 (by show 37<T.size;omega)
    refine tb_pure (v:=.slice (some ⟨b,off,none⟩) 17 c) hT ho hd rfl rfl (by decide) (by decide) ?_ rfl
    generalize Act.eval ⟨over T U,dd⟩=ev at *
    simp [execOp,v0,go_sem,hbox]
   | 27,ho,hl,hd =>
    obtain rfl:=Option.some.inj ho
    have f0:U 38=some (.slice (some ⟨b,off,none⟩) 17 c):=hT.facts 26 (by decide) (dep hd 26 (by kernel_rfl)) (fun c e=>by cases e)
    have v0:Act.eval ⟨over T U,dd⟩ (.tmp 38)=_:=eval_new (t:=T) (d:=dd) f0 (by show 38<T.size;omega)
    have vc:Act.eval ⟨over T U,dd⟩ (.const (.int .i64 8))=.int .i64 8:=rfl
    refine tb_pure (v:=.pointer (some ⟨b,off+40,none⟩)) hT ho hd rfl rfl (by decide) (by decide) ?_ rfl
    generalize Act.eval ⟨over T U,dd⟩=ev at *
    simp [execOp,v0,vc,go_sem]
   | 28,ho,hl,hd =>
    obtain rfl:=Option.some.inj ho
    have f0:U 39=some (.pointer (some ⟨b,off+40,none⟩)):=hT.facts 27 (by decide) (dep hd 27 (by kernel_rfl)) (fun c e=>by cases e)
    have v0:Act.eval ⟨over T U,dd⟩ (.tmp 39)=_:=eval_new (t:=T) (d:=dd) f0 (by show 39<T.size;omega)
    have h0:=hx.keep P8.out.1
    have h1:=hx.keep P8.out.2.1
    have h2:=hx.keep P8.out.2.2.1
    have h3:=hx.keep P8.out.2.2.2.1
    have h4:=hx.keep P8.out.2.2.2.2
    refine tb_pure (v:=.agg #[.int .i64 y8.tag,.int .i64 y8.kind,.int .i64 y8.n,.string y8.s,.slice N8.1 y8.kids.length N8.2]) hT ho hd rfl rfl (by decide) (by decide) ?_ rfl
    generalize Act.eval ⟨over T U,dd⟩=ev at *
    simp [execOp,v0,go_sem,h0,h1,h2,h3,h4]
   | 29,ho,hl,hd =>
    obtain rfl:=Option.some.inj ho
    have f0:U 40=some (.agg #[.int .i64 y8.tag,.int .i64 y8.kind,.int .i64 y8.n,.string y8.s,.slice N8.1 y8.kids.length N8.2]):=hT.facts 28 (by decide) (dep hd 28 (by kernel_rfl)) (fun c e=>by cases e)
    have v0:Act.eval ⟨over T U,dd⟩ (.tmp 40)=_:=eval_new (t:=T) (d:=dd) f0 (by show 40<T.size;omega)
    refine tb_call (f:=110) (args:=#[.agg #[.int .i64 y8.tag,.int .i64 y8.kind,.int .i64 y8.n,.string y8.s,.slice N8.1 y8.kids.length N8.2]]) (decR_ext w.heap.size b off c y0 y1 y2 y3 y4 y5 y6 y7 y8 y9 y10 y11 y12 y13 y14 y15 y16 N4 N5 N8 N15) hT ho hd rfl rfl (by decide) (by decide) (exec_call1 rfl rfl v0 ET.out) ?_
    refine (textsOf_any B d y8 N8 wz (HKK8.out.ext hx) (Nat.le_trans (HKL.out y8 (by simp)) (by omega))).mono ?_
    rintro e w' ⟨⟨A',c',rfl,h1,h2,h3,h4⟩,hb⟩
    exact ⟨_,rfl,hb,A',c',rfl,h1,h2,h3,h4⟩
   | 30,ho,hl,hd =>
    obtain rfl:=Option.some.inj ho
    have v4:=eval_old (d:=dd) (hT.out 4 (by decide)) (by omega) t4
    refine tb_pure (v:=.func (.func 109) #[] #[.pointer (some ⟨w.heap.size,0,none⟩)]) hT ho hd rfl rfl (by decide) (by decide) ?_ rfl
    generalize Act.eval ⟨over T U,dd⟩=ev at *
    simp [execOp,v4,go_sem]
   | 31,ho,hl,hd =>
    obtain rfl:=Option.some.inj ho
    have f0:U 42=some (.func (.func 109) #[] #[.pointer (some ⟨w.heap.size,0,none⟩)]):=hT.facts 30 (by decide) (dep hd 30 (by kernel_rfl)) (fun c e=>by cases e)
    have v0:Act.eval ⟨over T U,dd⟩ (.tmp 42)=_:=eval_new (t:=T) (d:=dd) f0 (by show 42<T.size;omega)
    refine tb_call (f:=109) (args:=#[.int .i64 10,.pointer (some ⟨w.heap.size,0,none⟩)]) (decR_ext w.heap.size b off c y0 y1 y2 y3 y4 y5 y6 y7 y8 y9 y10 y11 y12 y13 y14 y15 y16 N4 N5 N8 N15) hT ho hd rfl rfl (by decide) (by decide) (exec_callc rfl v0 rfl EN.out) ?_
    refine (number_to (t:=10) (K:=9) rfl wz hbox (hx.keep M9.out) (by omega) (by omega)).mono ?_
    rintro e w' ⟨rfl,rfl⟩
    exact ⟨_,rfl,Ext.refl _,rfl⟩
   | 32,ho,hl,hd =>
    obtain rfl:=Option.some.inj ho
    have v1:=eval_old (d:=dd) (hT.out 1 (by decide)) (by omega) t1
    refine tb_pure (v:=.pointer (some ⟨w.heap.size,4,none⟩)) hT ho hd rfl rfl (by decide) (by decide) ?_ rfl
    generalize Act.eval ⟨over T U,dd⟩=ev at *
    simp [execOp,v1,go_sem]
   | 33,ho,hl,hd =>
    obtain rfl:=Option.some.inj ho
    have f0:U 44=some (.pointer (some ⟨w.heap.size,4,none⟩)):=hT.facts 32 (by decide) (dep hd 32 (by kernel_rfl)) (fun c e=>by cases e)
    have v0:Act.eval ⟨over T U,dd⟩ (.tmp 44)=_:=eval_new (t:=T) (d:=dd) f0 (by show 44<T.size;omega)
    refine tb_pure (v:=.slice (some ⟨b,off,none⟩) 17 c) hT ho hd rfl rfl (by decide) (by decide) ?_ rfl
    generalize Act.eval ⟨over T U,dd⟩=ev at *
    simp [execOp,v0,go_sem,hbox]
   | 34,ho,hl,hd =>
    obtain rfl:=Option.some.inj ho
    have f0:U 45=some (.slice (some ⟨b,off,none⟩) 17 c):=hT.facts 33 (by decide) (dep hd 33 (by kernel_rfl)) (fun c e=>by cases e)
    have v0:Act.eval ⟨over T U,dd⟩ (.tmp 45)=_:=eval_new (t:=T) (d:=dd) f0 (by show 45<T.size;omega)
    have vc:Act.eval ⟨over T U,dd⟩ (.const (.int .i64 10))=.int .i64 10:=rfl
    refine tb_pure (v:=.pointer (some ⟨b,off+50,none⟩)) hT ho hd rfl rfl (by decide) (by decide) ?_ rfl
    generalize Act.eval ⟨over T U,dd⟩=ev at *
    simp [execOp,v0,vc,go_sem]
   | 35,ho,hl,hd =>
    obtain rfl:=Option.some.inj ho
    have f0:U 46=some (.pointer (some ⟨b,off+50,none⟩)):=hT.facts 34 (by decide) (dep hd 34 (by kernel_rfl)) (fun c e=>by cases e)
    have v0:Act.eval ⟨over T U,dd⟩ (.tmp 46)=_:=eval_new (t:=T) (d:=dd) f0 (by show 46<T.size;omega)
    refine tb_pure (v:=.pointer (some ⟨b,off+53,none⟩)) hT ho hd rfl rfl (by decide) (by decide) ?_ rfl
    generalize Act.eval ⟨over T U,dd⟩=ev at *
    simp [execOp,v0,go_sem]
   | 36,ho,hl,hd =>
    obtain rfl:=Option.some.inj ho
    have f0:U 47=some (.pointer (some ⟨b,off+53,none⟩)):=hT.facts 35 (by decide) (dep hd 35 (by kernel_rfl)) (fun c e=>by cases e)
    have v0:Act.eval ⟨over T U,dd⟩ (.tmp 47)=_:=eval_new (t:=T) (d:=dd) f0 (by show 47<T.size;omega)
    have hc:=hx.keep M10.out
    refine tb_pure (v:=.string y10.s) hT ho hd rfl rfl (by decide) (by decide) ?_ rfl
    generalize Act.eval ⟨over T U,dd⟩=ev at *
    simp [execOp,v0,go_sem,hc]
   | 37,ho,hl,hd =>
    obtain rfl:=Option.some.inj ho
    have v4:=eval_old (d:=dd) (hT.out 4 (by decide)) (by omega) t4
    refine tb_pure (v:=.func (.func 109) #[] #[.pointer (some ⟨w.heap.size,0,none⟩)]) hT ho hd rfl rfl (by decide) (by decide) ?_ rfl
    generalize Act.eval ⟨over T U,dd⟩=ev at *
    simp [execOp,v4,go_sem]
   | 38,ho,hl,hd =>
    obtain rfl:=Option.some.inj ho
    have f0:U 49=some (.func (.func 109) #[] #[.pointer (some ⟨w.heap.size,0,none⟩)]):=hT.facts 37 (by decide) (dep hd 37 (by kernel_rfl)) (fun c e=>by cases e)
    have v0:Act.eval ⟨over T U,dd⟩ (.tmp 49)=_:=eval_new (t:=T) (d:=dd) f0 (by show 49<T.size;omega)
    refine tb_call (f:=109) (args:=#[.int .i64 12,.pointer (some ⟨w.heap.size,0,none⟩)]) (decR_ext w.heap.size b off c y0 y1 y2 y3 y4 y5 y6 y7 y8 y9 y10 y11 y12 y13 y14 y15 y16 N4 N5 N8 N15) hT ho hd rfl rfl (by decide) (by decide) (exec_callc rfl v0 rfl EN.out) ?_
    refine (number_to (t:=12) (K:=11) rfl wz hbox (hx.keep M11.out) (by omega) (by omega)).mono ?_
    rintro e w' ⟨rfl,rfl⟩
    exact ⟨_,rfl,Ext.refl _,rfl⟩
   | 39,ho,hl,hd =>
    obtain rfl:=Option.some.inj ho
    have v4:=eval_old (d:=dd) (hT.out 4 (by decide)) (by omega) t4
    refine tb_pure (v:=.func (.func 109) #[] #[.pointer (some ⟨w.heap.size,0,none⟩)]) hT ho hd rfl rfl (by decide) (by decide) ?_ rfl
    generalize Act.eval ⟨over T U,dd⟩=ev at *
    simp [execOp,v4,go_sem]
   | 40,ho,hl,hd =>
    obtain rfl:=Option.some.inj ho
    have f0:U 51=some (.func (.func 109) #[] #[.pointer (some ⟨w.heap.size,0,none⟩)]):=hT.facts 39 (by decide) (dep hd 39 (by kernel_rfl)) (fun c e=>by cases e)
    have v0:Act.eval ⟨over T U,dd⟩ (.tmp 51)=_:=eval_new (t:=T) (d:=dd) f0 (by show 51<T.size;omega)
    refine tb_call (f:=109) (args:=#[.int .i64 13,.pointer (some ⟨w.heap.size,0,none⟩)]) (decR_ext w.heap.size b off c y0 y1 y2 y3 y4 y5 y6 y7 y8 y9 y10 y11 y12 y13 y14 y15 y16 N4 N5 N8 N15) hT ho hd rfl rfl (by decide) (by decide) (exec_callc rfl v0 rfl EN.out) ?_
    refine (number_to (t:=13) (K:=12) rfl wz hbox (hx.keep M12.out) (by omega) (by omega)).mono ?_
    rintro e w' ⟨rfl,rfl⟩
    exact ⟨_,rfl,Ext.refl _,rfl⟩
   | 41,ho,hl,hd =>
    obtain rfl:=Option.some.inj ho
    have v4:=eval_old (d:=dd) (hT.out 4 (by decide)) (by omega) t4
    refine tb_pure (v:=.func (.func 109) #[] #[.pointer (some ⟨w.heap.size,0,none⟩)]) hT ho hd rfl rfl (by decide) (by decide) ?_ rfl
    generalize Act.eval ⟨over T U,dd⟩=ev at *
    simp [execOp,v4,go_sem]
   | 42,ho,hl,hd =>
    obtain rfl:=Option.some.inj ho
    have f0:U 53=some (.func (.func 109) #[] #[.pointer (some ⟨w.heap.size,0,none⟩)]):=hT.facts 41 (by decide) (dep hd 41 (by kernel_rfl)) (fun c e=>by cases e)
    have v0:Act.eval ⟨over T U,dd⟩ (.tmp 53)=_:=eval_new (t:=T) (d:=dd) f0 (by show 53<T.size;omega)
    refine tb_call (f:=109) (args:=#[.int .i64 14,.pointer (some ⟨w.heap.size,0,none⟩)]) (decR_ext w.heap.size b off c y0 y1 y2 y3 y4 y5 y6 y7 y8 y9 y10 y11 y12 y13 y14 y15 y16 N4 N5 N8 N15) hT ho hd rfl rfl (by decide) (by decide) (exec_callc rfl v0 rfl EN.out) ?_
    refine (number_to (t:=14) (K:=13) rfl wz hbox (hx.keep M13.out) (by omega) (by omega)).mono ?_
    rintro e w' ⟨rfl,rfl⟩
    exact ⟨_,rfl,Ext.refl _,rfl⟩
   | 43,ho,hl,hd =>
    obtain rfl:=Option.some.inj ho
    have v4:=eval_old (d:=dd) (hT.out 4 (by decide)) (by omega) t4
    refine tb_pure (v:=.func (.func 109) #[] #[.pointer (some ⟨w.heap.size,0,none⟩)]) hT ho hd rfl rfl (by decide) (by decide) ?_ rfl
    generalize Act.eval ⟨over T U,dd⟩=ev at *
    simp [execOp,v4,go_sem]
   | 44,ho,hl,hd =>
    obtain rfl:=Option.some.inj ho
    have f0:U 55=some (.func (.func 109) #[] #[.pointer (some ⟨w.heap.size,0,none⟩)]):=hT.facts 43 (by decide) (dep hd 43 (by kernel_rfl)) (fun c e=>by cases e)
    have v0:Act.eval ⟨over T U,dd⟩ (.tmp 55)=_:=eval_new (t:=T) (d:=dd) f0 (by show 55<T.size;omega)
    refine tb_call (f:=109) (args:=#[.int .i64 15,.pointer (some ⟨w.heap.size,0,none⟩)]) (decR_ext w.heap.size b off c y0 y1 y2 y3 y4 y5 y6 y7 y8 y9 y10 y11 y12 y13 y14 y15 y16 N4 N5 N8 N15) hT ho hd rfl rfl (by decide) (by decide) (exec_callc rfl v0 rfl EN.out) ?_
    refine (number_to (t:=15) (K:=14) rfl wz hbox (hx.keep M14.out) (by omega) (by omega)).mono ?_
    rintro e w' ⟨rfl,rfl⟩
    exact ⟨_,rfl,Ext.refl _,rfl⟩
   | 45,ho,hl,hd =>
    obtain rfl:=Option.some.inj ho
    have v1:=eval_old (d:=dd) (hT.out 1 (by decide)) (by omega) t1
    refine tb_pure (v:=.pointer (some ⟨w.heap.size,4,none⟩)) hT ho hd rfl rfl (by decide) (by decide) ?_ rfl
    generalize Act.eval ⟨over T U,dd⟩=ev at *
    simp [execOp,v1,go_sem]
   | 46,ho,hl,hd =>
    obtain rfl:=Option.some.inj ho
    have f0:U 57=some (.pointer (some ⟨w.heap.size,4,none⟩)):=hT.facts 45 (by decide) (dep hd 45 (by kernel_rfl)) (fun c e=>by cases e)
    have v0:Act.eval ⟨over T U,dd⟩ (.tmp 57)=_:=eval_new (t:=T) (d:=dd) f0 (by show 57<T.size;omega)
    refine tb_pure (v:=.slice (some ⟨b,off,none⟩) 17 c) hT ho hd rfl rfl (by decide) (by decide) ?_ rfl
    generalize Act.eval ⟨over T U,dd⟩=ev at *
    simp [execOp,v0,go_sem,hbox]
   | 47,ho,hl,hd =>
    obtain rfl:=Option.some.inj ho
    have f0:U 58=some (.slice (some ⟨b,off,none⟩) 17 c):=hT.facts 46 (by decide) (dep hd 46 (by kernel_rfl)) (fun c e=>by cases e)
    have v0:Act.eval ⟨over T U,dd⟩ (.tmp 58)=_:=eval_new (t:=T) (d:=dd) f0 (by show 58<T.size;omega)
    have vc:Act.eval ⟨over T U,dd⟩ (.const (.int .i64 15))=.int .i64 15:=rfl
    refine tb_pure (v:=.pointer (some ⟨b,off+75,none⟩)) hT ho hd rfl rfl (by decide) (by decide) ?_ rfl
    generalize Act.eval ⟨over T U,dd⟩=ev at *
    simp [execOp,v0,vc,go_sem]
   | 48,ho,hl,hd =>
    obtain rfl:=Option.some.inj ho
    have f0:U 59=some (.pointer (some ⟨b,off+75,none⟩)):=hT.facts 47 (by decide) (dep hd 47 (by kernel_rfl)) (fun c e=>by cases e)
    have v0:Act.eval ⟨over T U,dd⟩ (.tmp 59)=_:=eval_new (t:=T) (d:=dd) f0 (by show 59<T.size;omega)
    have h0:=hx.keep P15.out.1
    have h1:=hx.keep P15.out.2.1
    have h2:=hx.keep P15.out.2.2.1
    have h3:=hx.keep P15.out.2.2.2.1
    have h4:=hx.keep P15.out.2.2.2.2
    refine tb_pure (v:=.agg #[.int .i64 y15.tag,.int .i64 y15.kind,.int .i64 y15.n,.string y15.s,.slice N15.1 y15.kids.length N15.2]) hT ho hd rfl rfl (by decide) (by decide) ?_ rfl
    generalize Act.eval ⟨over T U,dd⟩=ev at *
    simp [execOp,v0,go_sem,h0,h1,h2,h3,h4]
   | 49,ho,hl,hd =>
    obtain rfl:=Option.some.inj ho
    have f0:U 60=some (.agg #[.int .i64 y15.tag,.int .i64 y15.kind,.int .i64 y15.n,.string y15.s,.slice N15.1 y15.kids.length N15.2]):=hT.facts 48 (by decide) (dep hd 48 (by kernel_rfl)) (fun c e=>by cases e)
    have v0:Act.eval ⟨over T U,dd⟩ (.tmp 60)=_:=eval_new (t:=T) (d:=dd) f0 (by show 60<T.size;omega)
    refine tb_call (f:=111) (args:=#[.agg #[.int .i64 y15.tag,.int .i64 y15.kind,.int .i64 y15.n,.string y15.s,.slice N15.1 y15.kids.length N15.2]]) (decR_ext w.heap.size b off c y0 y1 y2 y3 y4 y5 y6 y7 y8 y9 y10 y11 y12 y13 y14 y15 y16 N4 N5 N8 N15) hT ho hd rfl rfl (by decide) (by decide) (exec_call1 rfl rfl v0 EI.out) ?_
    refine (numbersOf_any B d y15 N15 wz (HKK15.out.ext hx) (Nat.le_trans (HKL.out y15 (by simp)) (by omega))).mono ?_
    rintro e w' ⟨⟨A',c',rfl,h1,h2,h3,h4⟩,hb⟩
    exact ⟨_,rfl,hb,A',c',rfl,h1,h2,h3,h4⟩
   | 50,ho,hl,hd =>
    obtain rfl:=Option.some.inj ho
    have v4:=eval_old (d:=dd) (hT.out 4 (by decide)) (by omega) t4
    refine tb_pure (v:=.func (.func 109) #[] #[.pointer (some ⟨w.heap.size,0,none⟩)]) hT ho hd rfl rfl (by decide) (by decide) ?_ rfl
    generalize Act.eval ⟨over T U,dd⟩=ev at *
    simp [execOp,v4,go_sem]
   | 51,ho,hl,hd =>
    obtain rfl:=Option.some.inj ho
    have f0:U 62=some (.func (.func 109) #[] #[.pointer (some ⟨w.heap.size,0,none⟩)]):=hT.facts 50 (by decide) (dep hd 50 (by kernel_rfl)) (fun c e=>by cases e)
    have v0:Act.eval ⟨over T U,dd⟩ (.tmp 62)=_:=eval_new (t:=T) (d:=dd) f0 (by show 62<T.size;omega)
    refine tb_call (f:=109) (args:=#[.int .i64 17,.pointer (some ⟨w.heap.size,0,none⟩)]) (decR_ext w.heap.size b off c y0 y1 y2 y3 y4 y5 y6 y7 y8 y9 y10 y11 y12 y13 y14 y15 y16 N4 N5 N8 N15) hT ho hd rfl rfl (by decide) (by decide) (exec_callc rfl v0 rfl EN.out) ?_
    refine (number_to (t:=17) (K:=16) rfl wz hbox (hx.keep M16.out) (by omega) (by omega)).mono ?_
    rintro e w' ⟨rfl,rfl⟩
    exact ⟨_,rfl,Ext.refl _,rfl⟩
   | 52,ho,hl,hd =>
    obtain rfl:=Option.some.inj ho
    have f0:U 13=some (.int .i64 y0.n):=hT.facts 1 (by decide) (dep hd 1 (by kernel_rfl)) (fun c e=>by cases e)
    have v0:Act.eval ⟨over T U,dd⟩ (.tmp 13)=_:=eval_new (t:=T) (d:=dd) f0 (by show 13<T.size;omega)
    have f1:U 15=some (.int .i64 y1.n):=hT.facts 3 (by decide) (dep hd 3 (by kernel_rfl)) (fun c e=>by cases e)
    have v1:Act.eval ⟨over T U,dd⟩ (.tmp 15)=_:=eval_new (t:=T) (d:=dd) f1 (by show 15<T.size;omega)
    have f2:U 17=some (.int .i64 y2.n):=hT.facts 5 (by decide) (dep hd 5 (by kernel_rfl)) (fun c e=>by cases e)
    have v2:Act.eval ⟨over T U,dd⟩ (.tmp 17)=_:=eval_new (t:=T) (d:=dd) f2 (by show 17<T.size;omega)
    have f3:U 22=some (.string y3.s):=hT.facts 10 (by decide) (dep hd 10 (by kernel_rfl)) (fun c e=>by cases e)
    have v3:Act.eval ⟨over T U,dd⟩ (.tmp 22)=_:=eval_new (t:=T) (d:=dd) f3 (by show 22<T.size;omega)
    obtain ⟨A4,C4,f4,a4,b4,c4,d4⟩:∃ (A:Option Addr) (c:Nat),U 27=some (.slice A y4.kids.length c)∧SlS wz A (y4.kids.map Nd.s)∧y4.kids.length≤c∧c≤maxLen∧TyB wz A 9:=hT.facts 15 (by decide) (dep hd 15 (by kernel_rfl)) (fun c e=>by cases e)
    have v4:Act.eval ⟨over T U,dd⟩ (.tmp 27)=_:=eval_new (t:=T) (d:=dd) f4 (by show 27<T.size;omega)
    obtain ⟨A5,C5,f5,a5,b5,c5,d5⟩:∃ (A:Option Addr) (c:Nat),U 32=some (.slice A y5.kids.length c)∧SlI wz A (y5.kids.map Nd.n)∧y5.kids.length≤c∧c≤maxLen∧TyB wz A 3:=hT.facts 20 (by decide) (dep hd 20 (by kernel_rfl)) (fun c e=>by cases e)
    have v5:Act.eval ⟨over T U,dd⟩ (.tmp 32)=_:=eval_new (t:=T) (d:=dd) f5 (by show 32<T.size;omega)
    have f6:U 34=some (.int .i64 y6.n):=hT.facts 22 (by decide) (dep hd 22 (by kernel_rfl)) (fun c e=>by cases e)
    have v6:Act.eval ⟨over T U,dd⟩ (.tmp 34)=_:=eval_new (t:=T) (d:=dd) f6 (by show 34<T.size;omega)
    have f7:U 36=some (.int .i64 y7.n):=hT.facts 24 (by decide) (dep hd 24 (by kernel_rfl)) (fun c e=>by cases e)
    have v7:Act.eval ⟨over T U,dd⟩ (.tmp 36)=_:=eval_new (t:=T) (d:=dd) f7 (by show 36<T.size;omega)
    obtain ⟨A8,C8,f8,a8,b8,c8,d8⟩:∃ (A:Option Addr) (c:Nat),U 41=some (.slice A y8.kids.length c)∧SlS wz A (y8.kids.map Nd.s)∧y8.kids.length≤c∧c≤maxLen∧TyB wz A 9:=hT.facts 29 (by decide) (dep hd 29 (by kernel_rfl)) (fun c e=>by cases e)
    have v8:Act.eval ⟨over T U,dd⟩ (.tmp 41)=_:=eval_new (t:=T) (d:=dd) f8 (by show 41<T.size;omega)
    have f9:U 43=some (.int .i64 y9.n):=hT.facts 31 (by decide) (dep hd 31 (by kernel_rfl)) (fun c e=>by cases e)
    have v9:Act.eval ⟨over T U,dd⟩ (.tmp 43)=_:=eval_new (t:=T) (d:=dd) f9 (by show 43<T.size;omega)
    have f10:U 48=some (.string y10.s):=hT.facts 36 (by decide) (dep hd 36 (by kernel_rfl)) (fun c e=>by cases e)
    have v10:Act.eval ⟨over T U,dd⟩ (.tmp 48)=_:=eval_new (t:=T) (d:=dd) f10 (by show 48<T.size;omega)
    have f11:U 50=some (.int .i64 y11.n):=hT.facts 38 (by decide) (dep hd 38 (by kernel_rfl)) (fun c e=>by cases e)
    have v11:Act.eval ⟨over T U,dd⟩ (.tmp 50)=_:=eval_new (t:=T) (d:=dd) f11 (by show 50<T.size;omega)
    have f12:U 52=some (.int .i64 y12.n):=hT.facts 40 (by decide) (dep hd 40 (by kernel_rfl)) (fun c e=>by cases e)
    have v12:Act.eval ⟨over T U,dd⟩ (.tmp 52)=_:=eval_new (t:=T) (d:=dd) f12 (by show 52<T.size;omega)
    have f13:U 54=some (.int .i64 y13.n):=hT.facts 42 (by decide) (dep hd 42 (by kernel_rfl)) (fun c e=>by cases e)
    have v13:Act.eval ⟨over T U,dd⟩ (.tmp 54)=_:=eval_new (t:=T) (d:=dd) f13 (by show 54<T.size;omega)
    have f14:U 56=some (.int .i64 y14.n):=hT.facts 44 (by decide) (dep hd 44 (by kernel_rfl)) (fun c e=>by cases e)
    have v14:Act.eval ⟨over T U,dd⟩ (.tmp 56)=_:=eval_new (t:=T) (d:=dd) f14 (by show 56<T.size;omega)
    obtain ⟨A15,C15,f15,a15,b15,c15,d15⟩:∃ (A:Option Addr) (c:Nat),U 61=some (.slice A y15.kids.length c)∧SlI wz A (y15.kids.map Nd.n)∧y15.kids.length≤c∧c≤maxLen∧TyB wz A 3:=hT.facts 49 (by decide) (dep hd 49 (by kernel_rfl)) (fun c e=>by cases e)
    have v15:Act.eval ⟨over T U,dd⟩ (.tmp 61)=_:=eval_new (t:=T) (d:=dd) f15 (by show 61<T.size;omega)
    have f16:U 63=some (.int .i64 y16.n):=hT.facts 51 (by decide) (dep hd 51 (by kernel_rfl)) (fun c e=>by cases e)
    have v16:Act.eval ⟨over T U,dd⟩ (.tmp 63)=_:=eval_new (t:=T) (d:=dd) f16 (by show 63<T.size;omega)
    have hI:InX wz ⟨y0.n,y1.n,y2.n,y3.s,y4.kids.map Nd.s,y5.kids.map Nd.n,y6.n,y7.n,y8.kids.map Nd.s,y9.n,y10.s,y11.n,y12.n,y13.n,y14.n,y15.kids.map Nd.n,y16.n⟩ ⟨A4,C4,A5,C5,A8,C8,A15,C15⟩:=⟨a4,a5,a8,a15,⟨by rw [List.length_map];exact b4,c4⟩,⟨by rw [List.length_map];exact b5,c5⟩,⟨by rw [List.length_map];exact b8,c8⟩,⟨by rw [List.length_map];exact b15,c15⟩,d4,d5,d8,d15⟩
    refine tb_pure (v:=It.agg ⟨y0.n,y1.n,y2.n,y3.s,y4.kids.map Nd.s,y5.kids.map Nd.n,y6.n,y7.n,y8.kids.map Nd.s,y9.n,y10.s,y11.n,y12.n,y13.n,y14.n,y15.kids.map Nd.n,y16.n⟩ ⟨A4,C4,A5,C5,A8,C8,A15,C15⟩) hT ho hd rfl rfl (by decide) (by decide) ?_ ⟨⟨A4,C4,A5,C5,A8,C8,A15,C15⟩,rfl,hI⟩
    clear hI
    generalize Act.eval ⟨over T U,dd⟩=ev at *
    simp [execOp,v0,v1,v2,v3,v4,v5,v6,v7,v8,v9,v10,v11,v12,v13,v14,v15,v16,go_sem,It.agg]
   | 53,ho,hl,hd =>
    obtain rfl:=Option.some.inj ho
    refine tb_extW (v:=.pointer (some ⟨wz.heap.size,0,none⟩)) (w':=wz.alloc (.cells #[.int .i64 0,.int .i64 0,.int .i64 0,.string ⟨#[]⟩,.slice none 0 0,.slice none 0 0,.int .i64 0,.int .i64 0,.slice none 0 0,.int .i64 0,.string ⟨#[]⟩,.int .i64 0,.int .i64 0,.int .i64 0,.int .i64 0,.slice none 0 0,.int .i64 0] 45)) (decR_ext w.heap.size b off c y0 y1 y2 y3 y4 y5 y6 y7 y8 y9 y10 y11 y12 y13 y14 y15 y16 N4 N5 N8 N15) hT ho hd rfl rfl (by decide) (fun j hj hji hlj=>?_) ?_ ((Ext.refl _).alloc _) ⟨wz.heap.size,rfl,hg2,_,heap_alloc_new _ _,rfl⟩
    · by_cases h54:j=54
      · subst h54
        have:=dep (hT.shut 54 _ rfl hlj) 53 (by kernel_rfl)
        rw [hl] at this;cases this
      · exact (show ∀ j,j<56→j≠53→j≠54→decD.getD j 0≠5 by decide) j hj hji h54
    · generalize Act.eval ⟨over T U,dd⟩=ev at *
      simp [execOp,go_sem]
   | 54,ho,hl,hd =>
    obtain rfl:=Option.some.inj ho
    obtain ⟨q,f5,hq,hblk⟩:∃ q:Nat,U 5=some (.pointer (some ⟨q,0,none⟩))∧w.heap.size+2≤q∧BlkI wz q:=hT.facts 53 (by decide) (dep hd 53 (by kernel_rfl)) (fun c e=>by cases e)
    obtain ⟨L,f6,hI⟩:∃ L,U 64=some (It.agg ⟨y0.n,y1.n,y2.n,y3.s,y4.kids.map Nd.s,y5.kids.map Nd.n,y6.n,y7.n,y8.kids.map Nd.s,y9.n,y10.s,y11.n,y12.n,y13.n,y14.n,y15.kids.map Nd.n,y16.n⟩ L)∧InX wz ⟨y0.n,y1.n,y2.n,y3.s,y4.kids.map Nd.s,y5.kids.map Nd.n,y6.n,y7.n,y8.kids.map Nd.s,y9.n,y10.s,y11.n,y12.n,y13.n,y14.n,y15.kids.map Nd.n,y16.n⟩ L:=hT.facts 52 (by decide) (dep hd 52 (by kernel_rfl)) (fun c e=>by cases e)
    have v5:Act.eval ⟨over T U,dd⟩ (.tmp 5)=_:=eval_new (t:=T) (d:=dd) f5 (by show 5<T.size;omega)
    have v6:Act.eval ⟨over T U,dd⟩ (.tmp 64)=.agg #[.int .i64 y0.n,.int .i64 y1.n,.int .i64 y2.n,.string y3.s,.slice L.oA (y4.kids.map Nd.s).length L.oc,.slice L.cA (y5.kids.map Nd.n).length L.cc,.int .i64 y6.n,.int .i64 y7.n,.slice L.tA (y8.kids.map Nd.s).length L.tc,.int .i64 y9.n,.string y10.s,.int .i64 y11.n,.int .i64 y12.n,.int .i64 y13.n,.int .i64 y14.n,.slice L.sA (y15.kids.map Nd.n).length L.sc,.int .i64 y16.n]:=eval_new (t:=T) (d:=dd) f6 (by show 64<T.size;omega)
    obtain ⟨u0,k0⟩:=hblk.cell (i:=0) (by omega)
    have h0:=hblk.free 0
    obtain ⟨u1,k1⟩:=hblk.cell (i:=1) (by omega)
    have h1:=hblk.free 1
    obtain ⟨u2,k2⟩:=hblk.cell (i:=2) (by omega)
    have h2:=hblk.free 2
    obtain ⟨u3,k3⟩:=hblk.cell (i:=3) (by omega)
    have h3:=hblk.free 3
    obtain ⟨u4,k4⟩:=hblk.cell (i:=4) (by omega)
    have h4:=hblk.free 4
    obtain ⟨u5,k5⟩:=hblk.cell (i:=5) (by omega)
    have h5:=hblk.free 5
    obtain ⟨u6,k6⟩:=hblk.cell (i:=6) (by omega)
    have h6:=hblk.free 6
    obtain ⟨u7,k7⟩:=hblk.cell (i:=7) (by omega)
    have h7:=hblk.free 7
    obtain ⟨u8,k8⟩:=hblk.cell (i:=8) (by omega)
    have h8:=hblk.free 8
    obtain ⟨u9,k9⟩:=hblk.cell (i:=9) (by omega)
    have h9:=hblk.free 9
    obtain ⟨u10,k10⟩:=hblk.cell (i:=10) (by omega)
    have h10:=hblk.free 10
    obtain ⟨u11,k11⟩:=hblk.cell (i:=11) (by omega)
    have h11:=hblk.free 11
    obtain ⟨u12,k12⟩:=hblk.cell (i:=12) (by omega)
    have h12:=hblk.free 12
    obtain ⟨u13,k13⟩:=hblk.cell (i:=13) (by omega)
    have h13:=hblk.free 13
    obtain ⟨u14,k14⟩:=hblk.cell (i:=14) (by omega)
    have h14:=hblk.free 14
    obtain ⟨u15,k15⟩:=hblk.cell (i:=15) (by omega)
    have h15:=hblk.free 15
    obtain ⟨u16,k16⟩:=hblk.cell (i:=16) (by omega)
    have h16:=hblk.free 16
    refine tb_store (w':=put17 wz q (.int .i64 y0.n) (.int .i64 y1.n) (.int .i64 y2.n) (.string y3.s) (.slice L.oA (y4.kids.map Nd.s).length L.oc) (.slice L.cA (y5.kids.map Nd.n).length L.cc) (.int .i64 y6.n) (.int .i64 y7.n) (.slice L.tA (y8.kids.map Nd.s).length L.tc) (.int .i64 y9.n) (.string y10.s) (.int .i64 y11.n) (.int .i64 y12.n) (.int .i64 y13.n) (.int .i64 y14.n) (.slice L.sA (y15.kids.map Nd.n).length L.sc) (.int .i64 y16.n)) hT ho hd rfl rfl ?_ (put17_ext hx (by omega) _ _ _ _ _ _ _ _ _ _ _ _ _ _ _ _ _) ⟨q,L,f5,hq,put17_block hblk (.int .i64 y0.n) (.int .i64 y1.n) (.int .i64 y2.n) (.string y3.s) (.slice L.oA (y4.kids.map Nd.s).length L.oc) (.slice L.cA (y5.kids.map Nd.n).length L.cc) (.int .i64 y6.n) (.int .i64 y7.n) (.slice L.tA (y8.kids.map Nd.s).length L.tc) (.int .i64 y9.n) (.string y10.s) (.int .i64 y11.n) (.int .i64 y12.n) (.int .i64 y13.n) (.int .i64 y14.n) (.slice L.sA (y15.kids.map Nd.n).length L.sc) (.int .i64 y16.n),hI.put17 hblk (.int .i64 y0.n) (.int .i64 y1.n) (.int .i64 y2.n) (.string y3.s) (.slice L.oA (y4.kids.map Nd.s).length L.oc) (.slice L.cA (y5.kids.map Nd.n).length L.cc) (.int .i64 y6.n) (.int .i64 y7.n) (.slice L.tA (y8.kids.map Nd.s).length L.tc) (.int .i64 y9.n) (.string y10.s) (.int .i64 y11.n) (.int .i64 y12.n) (.int .i64 y13.n) (.int .i64 y14.n) (.slice L.sA (y15.kids.map Nd.n).length L.sc) (.int .i64 y16.n)⟩ (fun j hj hji hlj hcj hR=>decR_put w.heap.size b off c y0 y1 y2 y3 y4 y5 y6 y7 y8 y9 y10 y11 y12 y13 y14 y15 y16 N4 N5 N8 N15 j hji _ _ hblk hq (.int .i64 y0.n) (.int .i64 y1.n) (.int .i64 y2.n) (.string y3.s) (.slice L.oA (y4.kids.map Nd.s).length L.oc) (.slice L.cA (y5.kids.map Nd.n).length L.cc) (.int .i64 y6.n) (.int .i64 y7.n) (.slice L.tA (y8.kids.map Nd.s).length L.tc) (.int .i64 y9.n) (.string y10.s) (.int .i64 y11.n) (.int .i64 y12.n) (.int .i64 y13.n) (.int .i64 y14.n) (.slice L.sA (y15.kids.map Nd.n).length L.sc) (.int .i64 y16.n) hR)
    generalize Act.eval ⟨over T U,dd⟩=ev at *
    simp [execOp,v5,v6,go_sem,k0,k1,k2,k3,k4,k5,k6,k7,k8,k9,k10,k11,k12,k13,k14,k15,k16,h0,h1,h2,h3,h4,h5,h6,h7,h8,h9,h10,h11,h12,h13,h14,h15,h16]
   | i+55,ho,_,_=>exact absurd ho (by simp)
 · intro U wz hex hout hfin
   obtain ⟨q,L,f5,hq,hblk,hX⟩:DecDone w.heap.size ⟨y0.n,y1.n,y2.n,y3.s,y4.kids.map Nd.s,y5.kids.map Nd.n,y6.n,y7.n,y8.kids.map Nd.s,y9.n,y10.s,y11.n,y12.n,y13.n,y14.n,y15.kids.map Nd.n,y16.n⟩ (U 5) wz:=hfin 54 (by decide) rfl
   obtain ⟨hg2,-,hres⟩:w.heap.size+2≤wz.heap.size∧wz.cell? ⟨w.heap.size,4,none⟩=some (.slice (some ⟨b,off,none⟩) 17 c)∧BlkI wz (w.heap.size+1):=hfin 55 (by decide) rfl
   obtain ⟨CS,hCS⟩:∃ CS,(It.cells ⟨y0.n,y1.n,y2.n,y3.s,y4.kids.map Nd.s,y5.kids.map Nd.n,y6.n,y7.n,y8.kids.map Nd.s,y9.n,y10.s,y11.n,y12.n,y13.n,y14.n,y15.kids.map Nd.n,y16.n⟩ L).toArray=CS:=⟨_,rfl⟩
   have HAG:Hid (It.agg ⟨y0.n,y1.n,y2.n,y3.s,y4.kids.map Nd.s,y5.kids.map Nd.n,y6.n,y7.n,y8.kids.map Nd.s,y9.n,y10.s,y11.n,y12.n,y13.n,y14.n,y15.kids.map Nd.n,y16.n⟩ L=.agg CS):=Hi (by rw [← hCS];rfl)
   have hsz:CS.size=17:=by rw [← hCS];rfl
   have HONE:Hid (CS.all (·.oneCell')=true):=Hi (by rw [← hCS];simp [It.cells,Value.oneCell'])
   have HINF:Hid ((Tryz.prog.info? 45).map (·.size)=some CS.size):=Hi (by rw [hsz];kernel_rfl)
   rw [hCS] at hblk
   have HBL:=Hi hblk
   have HX:=Hi hX
   have HEX:=Hi hex
   have HRES:=Hi hres
   have HSZ:=Hi hsz
   clear hX hex hres hfin hblk hg2 hCS hsz
   rw [over_list]
   simp (disch:=decide) only [overL,Nat.reduceAdd,hout,Option.getD_none]
   rw [f5]
   simp only [Option.getD_some]
   clear hout f5
   go_wp2_with (refine wpList_load_row rfl _ _ rfl q rfl _ CS _ _ HBL.out Tryz.underlying45 rfl HINF.out ?_)
   have hv:=HVAL.out L _ HX.out (HG.out.ext HEX.out)
   rw [HAG.out] at hv
   with_reducible refine hv.mono ?_
   rintro e w3 ⟨rfl,hb3⟩
   clear hv
   obtain ⟨cs0,hr1,hr2⟩:=HRES.out.ext hb3
   have HX3:=Hi (HX.out.ext hb3)
   have X3:=Hi (HEX.out.trans hb3)
   have HB3:=Hi (hb3.blockAt HBL.out)
   have HR1:=Hi hr1
   have HR2:=Hi hr2
   have HR3:Hid (BlkI w3 (w.heap.size+1)):=Hi (HRES.out.ext hb3)
   clear hb3 hr1 hr2
   by_cases her:er=0
   · have e0:(er != 0)=false:=by rw [her];rfl
     have HER:=Hi her
     clear her
     go_wp2_with (first
      | refine wpList_load_row rfl _ _ rfl q rfl _ CS _ _ HB3.out Tryz.underlying45 rfl HINF.out ?_
      | refine wpList_store_row rfl _ _ _ rfl (w.heap.size+1) CS rfl rfl _ cs0 HR1.out HINF.out (HR2.out.trans HSZ.out.symm) HONE.out ?_)
     have HRS:=setRow_at (cs':=CS) HR1.out
     refine bodyPost_ret (v:=.tuple #[.agg CS,.int .i64 0]) (results_cell_tmp Tryz.results79 _ _ (w.heap.size+1) _ CS _ _ rfl HRS Tryz.underlying45 rfl HINF.out rfl) rfl ?_
     rw [← HAG.out]
     exact ⟨⟨fun _=>⟨L,rfl,HX3.out.setRow HR3.out CS HSZ.out⟩,fun h=>absurd HER.out h⟩,X3.out.setRow (Nat.le_succ _) CS⟩
   · have e0:(er != 0)=true:=by rw [bne_iff_ne];exact her
     have HER:=Hi her
     clear her
     go_wp2_with (first
      | refine wpList_store_row rfl _ _ _ rfl (w.heap.size+1) #[.int .i64 0,.int .i64 0,.int .i64 0,.string ⟨#[]⟩,.slice none 0 0,.slice none 0 0,.int .i64 0,.int .i64 0,.slice none 0 0,.int .i64 0,.string ⟨#[]⟩,.int .i64 0,.int .i64 0,.int .i64 0,.int .i64 0,.slice none 0 0,.int .i64 0] rfl rfl _ cs0 HR1.out (by kernel_rfl) HR2.out (by simp [Value.oneCell']) ?_)
     have HRS:=setRow_at (cs':=#[.int .i64 0,.int .i64 0,.int .i64 0,.string ⟨#[]⟩,.slice none 0 0,.slice none 0 0,.int .i64 0,.int .i64 0,.slice none 0 0,.int .i64 0,.string ⟨#[]⟩,.int .i64 0,.int .i64 0,.int .i64 0,.int .i64 0,.slice none 0 0,.int .i64 0]) HR1.out
     refine bodyPost_ret (v:=.tuple #[.agg #[.int .i64 0,.int .i64 0,.int .i64 0,.string ⟨#[]⟩,.slice none 0 0,.slice none 0 0,.int .i64 0,.int .i64 0,.slice none 0 0,.int .i64 0,.string ⟨#[]⟩,.int .i64 0,.int .i64 0,.int .i64 0,.int .i64 0,.slice none 0 0,.int .i64 0],.int .i64 er]) (results_cell_tmp Tryz.results79 _ _ (w.heap.size+1) _ _ _ _ rfl HRS Tryz.underlying45 rfl (by kernel_rfl) rfl) rfl ?_
     exact ⟨⟨fun h=>absurd h HER.out,fun _=>rfl⟩,X3.out.setRow (Nat.le_succ _) _⟩

namespace It
end It
theorem exec_store_row {P : Program} {ev : Operand → Value} {o : Oper} {w : World} (ty : TypeId) (x y : Operand) (ho : o.op = .store ty x y) (g : Nat) (cells : Array Value) (hx : ev x = .pointer (some ⟨g, 0, none⟩)) (hy : ev y = .agg cells)
    (t:TypeId) (old:Array Value) (hg:w.heap[g]?=some (.cells old t (0,0))) (hi:(P.info? ty).map (·.size)=some cells.size) (hold:old.size=cells.size) (h1:cells.all (·.oneCell')=true):(execOp ev o).run P w=.ok .skip (w.setRow g cells):=by
 unfold execOp
 simp only [ho,hx,hy,Instr.storeAt,Instr.sureAddr,Sem.run_bind,Sem.run_pure,Result.andThen_ok,run_storeVar_row w g t ty old cells hg hi hold h1]

namespace It
end It

theorem It.packed (it:It.Item) (L:It.Loc):∃ CS:Array Value,It.agg it L=.agg CS∧CS.size=17∧CS.all (·.oneCell')=true∧(It.cells it L).toArray=CS :=
 ⟨_,rfl,rfl,by simp [Value.oneCell'],rfl⟩
theorem infoItem {CS:Array Value} (h:CS.size=17):(Tryz.prog.info? 45).map (·.size)=some CS.size:=by rw [h];kernel_rfl
theorem heap_two_fst (w:World) (o1 o2:Obj):((w.alloc o1).alloc o2).heap[w.heap.size]?=some o1:=((Ext.refl (w.alloc o1)).alloc o2).blockAt (heap_alloc_new w o1)
theorem heap_two_snd (w:World) (o1 o2:Obj):((w.alloc o1).alloc o2).heap[w.heap.size+1]?=some o2:=heap_new_at _ _ _ (by simp)
end Go.Proofs.YtnlenappjjlbjaaGreatDoor
