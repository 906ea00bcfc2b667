/- Elements of several cells: what copying them does; a row that the call owns, out of its cells; an element put into the middle of a row. Conditions: those of each theorem. -/
import Derived.Test.YtfnmgcblhebdbaaGreatDoorZ12
import Derived.Laws.IdiomCopy
namespace Go.Proofs.YtfnmgcblhebdbaaGreatDoor
open Go.RowKit
namespace Bk
section
variable {P:Program}
theorem run_copy_cellsK(k:Nat)(w:World)(dT sT ty elem:TypeId)(b o dLen dCap:Nat)(a:Addr)(sLen sCap m:Nat)(cs:List Value)
    (hu:P.underlying dT=some (.slice elem)) (hs:(P.info? elem).map (·.size)=some k) (hm:Nat.min sLen dLen=m) (hn:cs.length=m*k)
    (hsrc:∀ j v,cs[j]?=some v→w.cell? (a.add j)=some v) (hc:∀ j,j<cs.length→(w.cell? ⟨b,o+j,none⟩).isSome=true) (hf:∀ j,j<cs.length→w.frozen? ⟨b,o+j,none⟩=false) (h1:∀ v∈cs,v.oneCell'=true) :
    (Builtin.copy_ #[dT,sT] ty #[.slice (some ⟨b,o,none⟩) dLen dCap,.slice (some a) sLen sCap]).run P w=.ok (goInt m) (w.setCells b o cs):=by
 have hl:=run_loadCells_list (P:=P) w a cs hsrc;have hst:=run_storeCells_cells (P:=P) b o cs 0 w (by simpa using hc) (by simpa using hf) h1;cases hq:P.info? elem with
 | none=>simp[hq]at hs
 | some i =>
  have hi:i.size=k:=by simpa[hq]using hs
  rw[hn]at hl;simp[Builtin.copy_,run_underlying hu,Builtin.lenOf,Builtin.firstCells,sizeOf,typeInfo,hq,hi,hm,hl,hst]
end
theorem own_of_cells{w:World}{g n cap base k:Nat}{e:TypeId}{cur:Array Value}(ys:List Value)(hg:w.heap[g]?=some (.cells cur e (0,0)))(hb:base≤g)(hn:n≤cap)(hm:cap≤maxLen)(hs:cur.size=cap*k)(hy:ys.length=n*k)(hc:∀ j v,ys[j]?=some v→w.cell? ⟨g,j,none⟩=some v) :
    w.ownsRow base e k (.slice (some ⟨g,0,none⟩) n cap) n ys:=by
 refine⟨hy,Or.inr ⟨g,cap,cur,rfl,hb,hg,hn,hm,hs,?_⟩⟩;apply List.ext_getElem?;intro j;rw[List.getElem?_take];split
 · rename_i hj
   have h1:ys[j]?=some (ys[j]'(by omega)):=List.getElem?_eq_getElem (by omega);have h2:=hc j _ h1;rw[cell_of_row _ _ j _ _ _ hg]at h2;rw[h1,← h2,Array.getElem?_toList]
 · rw[List.getElem?_eq_none (by omega)]
theorem setCells_blk{g:Nat}{e:TypeId}:∀ (vs:List Value) (o:Nat) (w:World) (cur:Array Value),w.heap[g]?=some (.cells cur e (0,0))→∃ cur',(w.setCells g o vs).heap[g]?=some (.cells cur' e (0,0))∧cur'.size=cur.size
 | [],_,_,cur,h=>⟨cur,h,rfl⟩
 | v :: r,o,w,cur,h=>by obtain⟨c,h1,h2⟩:=setCells_blk r (o+1) _ _ (heap_setCell_same w g o cur e v h);exact⟨c,h1,by rw[h2];simp⟩
theorem flat_take{X:Type}(E:Elt X):∀ (xs:List X) (i:Nat),((xs.take i).map E.enc).flatten=((xs.map E.enc).flatten).take (i*E.k)
 | [],i=>by simp
 | x :: xs,0=>by simp
 | x :: xs,i+1=>by
  have h1:(i+1)*E.k-(E.enc x).length=i*E.k:=by rw[E.len,Nat.succ_mul];omega
  have h2:(E.enc x).length≤(i+1)*E.k:=by rw[E.len,Nat.succ_mul];omega
  rw[List.take_succ_cons,List.map_cons,List.flatten_cons,List.map_cons,List.flatten_cons,List.take_append,flat_take E xs i,h1,List.take_of_length_le h2]
theorem flat_drop{X:Type}(E:Elt X):∀ (xs:List X) (i:Nat),((xs.drop i).map E.enc).flatten=((xs.map E.enc).flatten).drop (i*E.k)
 | [],i=>by simp
 | x :: xs,0=>by simp
 | x :: xs,i+1=>by
  have h1:(i+1)*E.k-(E.enc x).length=i*E.k:=by rw[E.len,Nat.succ_mul];omega
  have h2:(E.enc x).length≤(i+1)*E.k:=by rw[E.len,Nat.succ_mul];omega
  rw[List.drop_succ_cons,List.map_cons,List.flatten_cons,List.drop_append,flat_drop E xs i,h1,List.drop_eq_nil_of_le h2,List.nil_append]
theorem flat_ins{X:Type}(E:Elt X)(xs:List X)(x:X)(i:Nat):((xs.take i ++ x :: xs.drop i).map E.enc).flatten=((xs.map E.enc).flatten).take (i*E.k) ++ E.enc x ++ ((xs.map E.enc).flatten).drop (i*E.k):=by rw[List.map_append,List.flatten_append,List.map_cons,List.flatten_cons,flat_take,flat_drop,List.append_assoc]
theorem cells_some{w:World}{g:Nat}{e:TypeId}{cur:Array Value}(hg:w.heap[g]?=some (.cells cur e (0,0))){j:Nat}(hj:j<cur.size):(w.cell? ⟨g,j,none⟩).isSome=true:=by rw[cell_of_row _ _ j _ _ _ hg,Array.getElem?_eq_getElem hj];rfl
theorem some_setCells(b:Nat)(vs:List Value)(o:Nat)(w:World)(h:∀ j,j<vs.length→(w.cell? ⟨b,o+j,none⟩).isSome=true)(k:Nat)(hk:(w.cell? ⟨b,k,none⟩).isSome=true):((w.setCells b o vs).cell? ⟨b,k,none⟩).isSome=true:=by
 by_cases hin:o≤k∧k<o+vs.length
 · have:=World.cell?_setCells_in b vs o w h (k-o) (by omega);rw[show o+(k-o)=k by omega]at this;rw[this];rfl
 · rw[World.cell?_setCells_out b vs o w ⟨b,k,none⟩ (fun _ _=>by show k<o∨o+vs.length≤k;omega)];exact hk
theorem get3{A B C:List Value}{j:Nat}{v:Value}(h:(A ++ B ++ C)[j]?=some v):(j<A.length∧A[j]?=some v)∨(∃ r,j=A.length+r∧B[r]?=some v)∨(∃ r,j=A.length+B.length+r∧C[r]?=some v):=by
 rw[List.append_assoc,List.getElem?_append]at h;split at h
 · rename_i hj;exact Or.inl ⟨hj,h⟩
 · rename_i hj
   rw[List.getElem?_append]at h;split at h
   · exact Or.inr (Or.inl ⟨j-A.length,by omega,h⟩)
   · exact Or.inr (Or.inr ⟨j-A.length-B.length,by omega,h⟩)
theorem ins_cells{w:World}{g ik:Nat}{cs us:List Value}(hcs:∀ j v,cs[j]?=some v→w.cell? ⟨g,j,none⟩=some v)(hsp:∀ j,j<cs.length+us.length→(w.cell? ⟨g,j,none⟩).isSome=true)(hik:ik≤cs.length)(j:Nat)(v:Value)(h:(cs.take ik ++ us ++ cs.drop ik)[j]?=some v) :
    ((w.setCells g (ik+us.length) (cs.drop ik)).setCells g ik us).cell? ⟨g,j,none⟩=some v:=by
 have hd:(cs.drop ik).length=cs.length-ik:=List.length_drop;have hT:(cs.take ik).length=ik:=by rw[List.length_take];omega
 have hs1:∀ k,k<cs.length+us.length→((w.setCells g (ik+us.length) (cs.drop ik)).cell? ⟨g,k,none⟩).isSome=true:=fun k hk=>some_setCells _ _ _ _ (fun t ht=>hsp _ (by omega)) _ (hsp k hk);rcases get3 h with ⟨h1,h2⟩ | ⟨r,rfl,h2⟩ | ⟨r,rfl,h2⟩
 · rw[hT]at h1;rw[World.cell?_setCells_out _ _ _ _ _ (fun _ _=>Or.inl h1),World.cell?_setCells_out _ _ _ _ _ (fun _ _=>Or.inl (by show j<_;omega))];rw[List.getElem?_take,if_pos h1]at h2;exact hcs j v h2
 · rw[hT];obtain⟨hr,rfl⟩:=List.getElem?_eq_some_iff.1 h2;exact World.cell?_setCells_in g us ik _ (fun t ht=>hs1 _ (by omega)) r hr
 · rw[hT];obtain⟨hr,rfl⟩:=List.getElem?_eq_some_iff.1 h2;rw[World.cell?_setCells_out _ _ _ _ _ (fun _ _=>Or.inr (by show _≤ik+us.length+r;omega))];exact World.cell?_setCells_in g _ _ _ (fun t ht=>hsp _ (by omega)) r hr
theorem ins_cells2{w:World}{g ik:Nat}{cs us:List Value}(hcs:∀ j v,(cs.take ik)[j]?=some v→w.cell? ⟨g,j,none⟩=some v)(hsp:∀ j,j<cs.length+us.length→(w.cell? ⟨g,j,none⟩).isSome=true)(hik:ik≤cs.length)(j:Nat)(v:Value)(h:(cs.take ik ++ us ++ cs.drop ik)[j]?=some v) :
    ((w.setCells g ik us).drew.setCells g (ik+us.length) (cs.drop ik)).cell? ⟨g,j,none⟩=some v:=by
 have hd:(cs.drop ik).length=cs.length-ik:=List.length_drop;have hT:(cs.take ik).length=ik:=by rw[List.length_take];omega
 have hdr:∀ a,(w.setCells g ik us).drew.cell? a=(w.setCells g ik us).cell? a:=fun _=>rfl;have hs1:∀ k,k<cs.length+us.length→((w.setCells g ik us).drew.cell? ⟨g,k,none⟩).isSome=true:=fun k hk=>some_setCells g us ik w (fun t ht=>hsp _ (by omega)) _ (hsp k hk);rcases get3 h with ⟨h1,h2⟩ | ⟨r,rfl,h2⟩ | ⟨r,rfl,h2⟩
 · rw[hT]at h1;rw[World.cell?_setCells_out _ _ _ _ _ (fun _ _=>Or.inl (by show j<_;omega)),hdr,World.cell?_setCells_out _ _ _ _ _ (fun _ _=>Or.inl h1)];exact hcs j v h2
 · rw[hT];obtain⟨hr,rfl⟩:=List.getElem?_eq_some_iff.1 h2;rw[World.cell?_setCells_out _ _ _ _ _ (fun _ _=>Or.inl (by show ik+r<_;omega)),hdr];exact World.cell?_setCells_in g us ik _ (fun t ht=>hsp _ (by omega)) r hr
 · rw[hT];obtain⟨hr,rfl⟩:=List.getElem?_eq_some_iff.1 h2;exact World.cell?_setCells_in g _ _ _ (fun t ht=>hs1 _ (by omega)) r hr
structure RetIns {X:Type}(E:Elt X)(w:World)(base:Nat)(v:Value)(xs:List X)(x:X)(i:Nat)(e:Ending)(w':World):Prop where
 out:∃ A c,e=.returned (.slice A (xs.length+1) c)∧RowX E E.T w' base (.slice A (xs.length+1) c) (xs.take i ++ x :: xs.drop i)∧∀ a,A=some a→v.ownBlock=some a.block∨w.heap.size≤a.block
 nil:v.ownBlock=Option.none→Ext w w'
 but:∀ q,v.ownBlock=some q→But q w w'
 ext:∀ w0,Ext w0 w→(∀ q,v.ownBlock=some q→w0.heap.size≤q)→Ext w0 w'
theorem ins_len{X:Type}(xs:List X)(x:X){i:Nat}(hi:i≤xs.length):(xs.take i ++ x :: xs.drop i).length=xs.length+1:=by rw[List.length_append,List.length_cons,List.length_take,List.length_drop];omega
theorem mem_ins{X:Type}{xs:List X}{x y:X}{i:Nat}(h:y∈xs.take i ++ x :: xs.drop i):y∈xs∨y=x:=by
 rcases List.mem_append.1 h with h | h
 · exact Or.inl (List.mem_of_mem_take h)
 · rcases List.mem_cons.1 h with h | h
   · exact Or.inr h
   · exact Or.inl (List.mem_of_mem_drop h)
theorem RetIns.shift{X:Type}{E:Elt X}{w:World}{base g cap i:Nat}{xs:List X}{x:X}{cur:Array Value}(hrow:RowX E E.T w base (.slice (some ⟨g,0,none⟩) xs.length cap) xs)(hb:base≤g)(hg:w.heap[g]?=some (.cells cur E.T (0,0)))(hn:xs.length+1≤cap)(hm:cap≤maxLen)(hs:cur.size=cap*E.k)
    (hcs:∀ j v,((xs.map E.enc).flatten)[j]?=some v→w.cell? ⟨g,j,none⟩=some v) (hi:i≤xs.length) (hx:E.In w x) (hxo:E.Off g x) {w':World} (hw:w'=(w.drew.setCells g (i*E.k+(E.enc x).length) (((xs.map E.enc).flatten).drop (i*E.k))).setCells g (i*E.k) (E.enc x)) :
    RetIns E w base (.slice (some ⟨g,0,none⟩) xs.length cap) xs x i (.returned (.slice (some ⟨g,0,none⟩) (xs.length+1) cap)) w':=by
 subst hw;have hfl:((xs.map E.enc).flatten).length=xs.length*E.k:=by rw[flatten_len (map_len xs),List.length_map]
 have hbut:But g w ((w.drew.setCells g (i*E.k+(E.enc x).length) (((xs.map E.enc).flatten).drop (i*E.k))).setCells g (i*E.k) (E.enc x)):=(But.setCells g _ _ w.drew).trans (But.setCells g _ _ _);have hik:i*E.k≤xs.length*E.k:=Nat.mul_le_mul_right _ hi;obtain⟨c1,h1,h2⟩:=setCells_blk (g:=g) (((xs.map E.enc).flatten).drop (i*E.k)) (i*E.k+(E.enc x).length) w.drew cur hg;obtain⟨c2,h3,h4⟩:=setCells_blk (g:=g) (E.enc x) (i*E.k) _ c1 h1;have hcap:xs.length*E.k+E.k≤cap*E.k:=by rw[← Nat.succ_mul];exact Nat.mul_le_mul_right _ hn
 have hsp:∀ j,j<((xs.map E.enc).flatten).length+(E.enc x).length→(w.drew.cell? ⟨g,j,none⟩).isSome=true:=fun j hj=>cells_some (w:=w) hg (by rw[hfl,E.len]at hj;omega);refine⟨⟨_,_,rfl,⟨?_,?_,?_⟩,fun a ha=>by cases ha;exact Or.inl rfl⟩,(fun h=>by cases h),fun q hq=>by injection hq with hq;subst hq;exact hbut,fun w0 h0 hq=>Ext.setCells (hq g rfl) _ _ _ (Ext.setCells (hq g rfl) _ _ _ h0.drew)⟩
 · rw[ins_len xs x hi,flat_ins];refine own_of_cells _ h3 hb hn hm (by rw[h4,h2,hs]) ?_ (fun j v hj=>ins_cells (w:=w.drew) hcs hsp (by rw[hfl];exact hik) j v hj);rw[List.length_append,List.length_append,List.length_take,List.length_drop,hfl,E.len,Nat.succ_mul];omega
 · intro y hy;rcases mem_ins hy with hy | rfl
   · exact E.but (hrow.ins y hy) (hrow.off g rfl y hy) hbut
   · exact E.but hx hxo hbut
 · intro q hq y hy;injection hq with hq;subst hq;rcases mem_ins hy with hy | rfl
   · exact hrow.off _ rfl y hy
   · exact hxo
theorem RetIns.grow{X:Type}{E:Elt X}{w w1:World}{base cap i N:Nat}{xs:List X}{x:X}{v:Value}{cur:Array Value}(hins:∀ y∈xs,E.In w y)(hN:N=w.heap.size)(he:Ext w w1)(hb:base≤w.heap.size)(hg:w1.heap[N]?=some (.cells cur E.T (0,0)))(hn:xs.length+1≤cap)(hm:cap≤maxLen)(hs:cur.size=cap*E.k)
    (hcs:∀ j v,(((xs.map E.enc).flatten).take (i*E.k))[j]?=some v→w1.cell? ⟨N,j,none⟩=some v) (hi:i≤xs.length) (hx:E.In w x) {w':World} (hw:w'=(w1.setCells N (i*E.k) (E.enc x)).drew.setCells N (i*E.k+(E.enc x).length) (((xs.map E.enc).flatten).drop (i*E.k))) :
    RetIns E w base v xs x i (.returned (.slice (some ⟨N,0,none⟩) (xs.length+1) cap)) w':=by
 subst hw hN;have hfl:((xs.map E.enc).flatten).length=xs.length*E.k:=by rw[flatten_len (map_len xs),List.length_map]
 have hik:i*E.k≤xs.length*E.k:=Nat.mul_le_mul_right _ hi;have hbut:But w.heap.size w1 ((w1.setCells w.heap.size (i*E.k) (E.enc x)).drew.setCells w.heap.size (i*E.k+(E.enc x).length) (((xs.map E.enc).flatten).drop (i*E.k))):=(But.setCells _ _ _ w1).trans (But.setCells _ _ _ (w1.setCells w.heap.size (i*E.k) (E.enc x)).drew);have hext:Ext w ((w1.setCells w.heap.size (i*E.k) (E.enc x)).drew.setCells w.heap.size (i*E.k+(E.enc x).length) (((xs.map E.enc).flatten).drop (i*E.k))):=by have h2:=Ext.setCells (Nat.le_refl w.heap.size) (E.enc x) (i*E.k) w1 he;exact Ext.setCells (Nat.le_refl w.heap.size) _ _ _ h2.drew
 obtain⟨c1,h1,h2⟩:=setCells_blk (g:=w.heap.size) (E.enc x) (i*E.k) w1 cur hg;obtain⟨c2,h3,h4⟩:=setCells_blk (g:=w.heap.size) (((xs.map E.enc).flatten).drop (i*E.k)) (i*E.k+(E.enc x).length) (w1.setCells w.heap.size (i*E.k) (E.enc x)).drew c1 h1;have hcap:xs.length*E.k+E.k≤cap*E.k:=by rw[← Nat.succ_mul];exact Nat.mul_le_mul_right _ hn
 have hsp:∀ j,j<((xs.map E.enc).flatten).length+(E.enc x).length→(w1.cell? ⟨w.heap.size,j,none⟩).isSome=true:=fun j hj=>cells_some hg (by rw[hfl,E.len]at hj;omega);refine⟨⟨_,_,rfl,⟨?_,?_,?_⟩,fun a ha=>by cases ha;exact Or.inr (Nat.le_refl _)⟩,(fun _=>hext),fun q hq=>But.ext q hext,fun w0 h0 _=>h0.trans hext⟩
 · rw[ins_len xs x hi,flat_ins];refine own_of_cells _ h3 hb hn hm (by rw[h4,h2,hs]) ?_ (fun j v hj=>ins_cells2 (w:=w1) hcs hsp (by rw[hfl];exact hik) j v hj);rw[List.length_append,List.length_append,List.length_take,List.length_drop,hfl,E.len,Nat.succ_mul];omega
 · intro y hy;rcases mem_ins hy with hy | rfl
   · exact E.ext (hins y hy) hext
   · exact E.ext hx hext
 · intro q hq y hy;injection hq with hq;subst hq;rcases mem_ins hy with hy | rfl
   · exact E.off (hins y hy) (Nat.le_refl _)
   · exact E.off hx (Nat.le_refl _)
end Bk
end Go.Proofs.YtfnmgcblhebdbaaGreatDoor
