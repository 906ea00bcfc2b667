/- Items, entries and banks as they lie in memory. No conditions. -/
import Derived.Test.YtfnmgcblhebdbaaGreatDoorBkP
import Derived.Test.YtfnmgcblhebdbaaGreatDoorBkE
import Derived.Test.YtfnmgcblhebdbaaGreatDoorItA
namespace Go.Proofs.YtfnmgcblhebdbaaGreatDoor
open Go.RowKit
namespace Bk
/-- Strings. -/
def eS : Elt ByteArray where
  T := 9
  k := 1
  enc x := [.string x]
  In _ _ := True
  Off _ _ := True
  From _ _ := True
  pos := by omega
  len _ := rfl
  one x v hv := by obtain rfl : v = .string x := by simpa using hv
                   rfl
  ext h _ := h
  but h _ _ := h
  off _ _ := trivial
  frm _ _ := trivial
  mono _ _ := trivial
def acl (a : Rev.Act) : List Value := [.int .i64 a.kind, .int .i64 a.user, .int .i64 a.roles, .int .i64 a.time]
def ActIn (a : Rev.Act) : Prop := In64 a.kind ∧ In64 a.user ∧ In64 a.roles ∧ In64 a.time
/-- Elements without parts elsewhere. -/
def eFlat {X : Type} (T : TypeId) (k : Nat) (enc : X → List Value) (In : X → Prop) (pos : 0 < k) (len : ∀ x, (enc x).length = k) (one : ∀ x, ∀ v ∈ enc x, v.oneCell' = true) : Elt X where
  T := T
  k := k
  enc := enc
  In _ x := In x
  Off _ _ := True
  From _ _ := True
  pos := pos
  len := len
  one := one
  ext h _ := h
  but h _ _ := h
  off _ _ := trivial
  frm _ _ := trivial
  mono _ _ := trivial
def eAct : Elt Rev.Act := eFlat 116 4 acl ActIn (by omega) (fun _ => rfl) (fun x v hv => by simp [acl] at hv; rcases hv with rfl | rfl | rfl | rfl <;> rfl)
def tcl (t : Tpc) : List Value := [.string t.1, .string t.2]
def TpcIn (t : Tpc) : Prop := t.1.size ≤ 140737488351232 ∧ t.2.size ≤ 140737488351232
def eTpc : Elt Tpc := eFlat 41 2 tcl TpcIn (by omega) (fun _ => rfl) (fun x v hv => by simp [tcl] at hv; rcases hv with rfl | rfl <;> rfl)
def scl (a : Ast) : List Value := [.int .i64 a.id, .int .i64 a.bytes, .string a.alt, .int .i64 a.frm, .int .i64 a.unt]
def AstIn (a : Ast) : Prop := a.alt.size ≤ 140737488351232 ∧ In64 a.id ∧ In64 a.bytes ∧ In64 a.frm ∧ In64 a.unt
def eAst : Elt Ast := eFlat 43 5 scl AstIn (by omega) (fun _ => rfl) (fun x v hv => by simp [scl] at hv; rcases hv with rfl | rfl | rfl | rfl | rfl <;> rfl)
def pcl (p : Int × Int) : List Value := [.int .i64 p.1, .int .i64 p.2]
def ParIn (p : Int × Int) : Prop := In64 p.1 ∧ In64 p.2
def ePar : Elt (Int × Int) := eFlat 80 2 pcl ParIn (by omega) (fun _ => rfl) (fun x v hv => by simp [pcl] at hv; rcases hv with rfl | rfl <;> rfl)

/-- An item with where its parts lie. -/
abbrev ItL := It.Item × It.Loc
def icl (x : ItL) : List Value := It.cells x.1 x.2
structure ItOff (g : Nat) (x : ItL) : Prop where
  o : OffA g x.2.oA x.1.opts.length
  c : OffA g x.2.cA x.1.chs.length
  t : OffA g x.2.tA x.1.texts.length
  s : OffA g x.2.sA x.1.assets.length
structure ItFrom (N : Nat) (x : ItL) : Prop where
  o : FromA N x.2.oA x.1.opts.length
  c : FromA N x.2.cA x.1.chs.length
  t : FromA N x.2.tA x.1.texts.length
  s : FromA N x.2.sA x.1.assets.length
theorem It.In.but {w w' : World} {g : Nat} {x : ItL} (h : It.In w x.1 x.2) (ho : ItOff g x) (hb : But g w w') : It.In w' x.1 x.2 :=
  ⟨h.ok, Sl.but h.o hb (by rw [List.length_map]; exact ho.o), Sl.but h.c hb (by rw [List.length_map]; exact ho.c), Sl.but h.t hb (by rw [List.length_map]; exact ho.t), Sl.but h.s hb (by rw [List.length_map]; exact ho.s), h.oc, h.cc, h.tc, h.sc⟩
theorem It.In.off {w : World} {g : Nat} {x : ItL} (h : It.In w x.1 x.2) (hg : w.heap.size ≤ g) : ItOff g x :=
  ⟨by have := Sl.offA h.o hg; rwa [List.length_map] at this, by have := Sl.offA h.c hg; rwa [List.length_map] at this, by have := Sl.offA h.t hg; rwa [List.length_map] at this, by have := Sl.offA h.s hg; rwa [List.length_map] at this⟩
def eIt : Elt ItL where
  T := 39
  k := 17
  enc := icl
  In w x := It.In w x.1 x.2
  Off := ItOff
  From := ItFrom
  pos := by omega
  len _ := rfl
  one x v hv := by
    have h : ((icl x).all (·.oneCell')) = true := by simp [icl, It.cells, Value.oneCell']
    exact List.all_eq_true.1 h v hv
  ext h he := h.ext he
  but h ho hb := It.In.but h ho hb
  off h hg := It.In.off h hg
  frm h hg := ⟨h.o.off hg, h.c.off hg, h.t.off hg, h.s.off hg⟩
  mono h hg := ⟨h.o.mono hg, h.c.mono hg, h.t.mono hg, h.s.mono hg⟩

/-- An entry with where its parts lie. -/
structure EntL where
  vA : Option Addr
  vc : Nat
  vs : List ItL
  st : Int
  au : Int
  ap : IL
  fa : IL
  lA : Option Addr
  lc : Nat
  log : List Rev.Act
  rA : Option Addr
  rc : Nat
  rows : List IL
def EntL.ent (e : EntL) : Ent := ⟨e.vs.map (·.1), ⟨e.st, e.au, e.ap.xs, e.fa.xs, e.log⟩, e.rows.map (·.xs)⟩
def EntL.cells (e : EntL) : List Value := [.slice e.vA e.vs.length e.vc, .int .i64 e.st, .int .i64 e.au, e.ap.val, e.fa.val, .slice e.lA e.log.length e.lc, .slice e.rA e.rows.length e.rc]
def EntL.agg (e : EntL) : Value := .agg #[.slice e.vA e.vs.length e.vc, .int .i64 e.st, .int .i64 e.au, e.ap.val, e.fa.val, .slice e.lA e.log.length e.lc, .slice e.rA e.rows.length e.rc]
structure EntL.In (w : World) (e : EntL) : Prop where
  vs : SlX eIt w e.vA e.vs
  vc : e.vs.length ≤ e.vc ∧ e.vc ≤ maxLen
  st : In64 e.st
  au : In64 e.au
  ap : e.ap.In w
  fa : e.fa.In w
  log : SlX eAct w e.lA e.log
  lc : e.log.length ≤ e.lc ∧ e.lc ≤ maxLen
  rows : SlX eIL w e.rA e.rows
  rc : e.rows.length ≤ e.rc ∧ e.rc ≤ maxLen
structure EntL.Off (g : Nat) (e : EntL) : Prop where
  vs : OffX eIt g e.vA e.vs
  ap : eIL.Off g e.ap
  fa : eIL.Off g e.fa
  log : OffX eAct g e.lA e.log
  rows : OffX eIL g e.rA e.rows
structure EntL.From (N : Nat) (e : EntL) : Prop where
  vs : FromX eIt N e.vA e.vs
  ap : eIL.From N e.ap
  fa : eIL.From N e.fa
  log : FromX eAct N e.lA e.log
  rows : FromX eIL N e.rA e.rows
theorem EntL.In.ext {w w' : World} {e : EntL} (h : e.In w) (he : Ext w w') : e.In w' := ⟨h.vs.ext he, h.vc, h.st, h.au, h.ap.ext he, h.fa.ext he, h.log.ext he, h.lc, h.rows.ext he, h.rc⟩
theorem EntL.In.but {w w' : World} {g : Nat} {e : EntL} (h : e.In w) (ho : e.Off g) (hb : But g w w') : e.In w' :=
  ⟨h.vs.but ho.vs hb, h.vc, h.st, h.au, eIL.but h.ap ho.ap hb, eIL.but h.fa ho.fa hb, h.log.but ho.log hb, h.lc, h.rows.but ho.rows hb, h.rc⟩
theorem EntL.In.off {w : World} {g : Nat} {e : EntL} (h : e.In w) (hg : w.heap.size ≤ g) : e.Off g := ⟨h.vs.off hg, eIL.off h.ap hg, eIL.off h.fa hg, h.log.off hg, h.rows.off hg⟩
def eEnt : Elt EntL where
  T := 56
  k := 7
  enc := EntL.cells
  In w e := e.In w
  Off := EntL.Off
  From := EntL.From
  pos := by omega
  len _ := rfl
  one x v hv := by
    have h : ((EntL.cells x).all (·.oneCell')) = true := by simp [EntL.cells, IL.val, Value.oneCell']
    exact List.all_eq_true.1 h v hv
  ext h he := h.ext he
  but h ho hb := h.but ho hb
  off h hg := h.off hg
  frm h hg := ⟨h.vs.off hg, eIL.frm h.ap hg, eIL.frm h.fa hg, h.log.off hg, h.rows.off hg⟩
  mono h hg := ⟨h.vs.mono hg, eIL.mono h.ap hg, eIL.mono h.fa hg, h.log.mono hg, h.rows.mono hg⟩
/-- An entry's cells, packed: the value stays opaque. -/
theorem EntL.packed (e : EntL) : ∃ CS : Array Value, e.agg = .agg CS ∧ CS.size = 7 ∧ CS.all (·.oneCell') = true ∧ e.cells.toArray = CS := ⟨_, rfl, rfl, by simp [IL.val, Value.oneCell'], rfl⟩
theorem itp (x : ItL) : ∃ CS : Array Value, It.agg x.1 x.2 = .agg CS ∧ CS.size = 17 ∧ CS.all (·.oneCell') = true ∧ (icl x).toArray = CS := ⟨_, rfl, rfl, by simp [Value.oneCell'], rfl⟩

/-- A review record with where its parts lie. -/
structure RvL where
  st : Int
  au : Int
  ap : IL
  fa : IL
  lA : Option Addr
  lc : Nat
  log : List Rev.Act
def RvL.rc (r : RvL) : Rev.Rec := ⟨r.st, r.au, r.ap.xs, r.fa.xs, r.log⟩
def RvL.cells (r : RvL) : List Value := [.int .i64 r.st, .int .i64 r.au, r.ap.val, r.fa.val, .slice r.lA r.log.length r.lc]
def RvL.agg (r : RvL) : Value := .agg #[.int .i64 r.st, .int .i64 r.au, r.ap.val, r.fa.val, .slice r.lA r.log.length r.lc]
structure RvL.In (w : World) (r : RvL) : Prop where
  st : In64 r.st
  au : In64 r.au
  ap : r.ap.In w
  fa : r.fa.In w
  log : SlX eAct w r.lA r.log
  lc : r.log.length ≤ r.lc ∧ r.lc ≤ maxLen
structure RvL.From (N : Nat) (r : RvL) : Prop where
  ap : eIL.From N r.ap
  fa : eIL.From N r.fa
  log : FromX eAct N r.lA r.log
theorem RvL.In.ext {w w' : World} {r : RvL} (h : r.In w) (he : Ext w w') : r.In w' := ⟨h.st, h.au, h.ap.ext he, h.fa.ext he, h.log.ext he, h.lc⟩
theorem RvL.packed (r : RvL) : ∃ CS : Array Value, r.agg = .agg CS ∧ CS.size = 5 ∧ CS.all (·.oneCell') = true ∧ r.cells.toArray = CS := ⟨_, rfl, rfl, by simp [IL.val, Value.oneCell'], rfl⟩
def EntL.rv (e : EntL) : RvL := ⟨e.st, e.au, e.ap, e.fa, e.lA, e.lc, e.log⟩
/-- A bank with where its parts lie. -/
structure BankL where
  now : Int
  gp : IL
  gq : IL
  oA : Option Addr
  oc : Nat
  outl : List Tpc
  aA : Option Addr
  ac : Nat
  assets : List Ast
  eA : Option Addr
  ec : Nat
  ents : List EntL
  nA : Option Addr
  nc : Nat
  enem : List (Int × Int)
def BankL.bank (b : BankL) : Bank := ⟨b.now, b.gp.xs, b.gq.xs, b.outl, b.assets, b.ents.map (·.ent), b.enem⟩
def BankL.cells (b : BankL) : List Value := [.int .i64 b.now, b.gp.val, b.gq.val, .slice b.oA b.outl.length b.oc, .slice b.aA b.assets.length b.ac, .slice b.eA b.ents.length b.ec, .slice b.nA b.enem.length b.nc]
def BankL.agg (b : BankL) : Value := .agg #[.int .i64 b.now, b.gp.val, b.gq.val, .slice b.oA b.outl.length b.oc, .slice b.aA b.assets.length b.ac, .slice b.eA b.ents.length b.ec, .slice b.nA b.enem.length b.nc]
structure BankL.In (w : World) (b : BankL) : Prop where
  now : In64 b.now
  gp : b.gp.In w
  gq : b.gq.In w
  outl : SlX eTpc w b.oA b.outl
  oc : b.outl.length ≤ b.oc ∧ b.oc ≤ maxLen
  assets : SlX eAst w b.aA b.assets
  ac : b.assets.length ≤ b.ac ∧ b.ac ≤ maxLen
  ents : SlX eEnt w b.eA b.ents
  ec : b.ents.length ≤ b.ec ∧ b.ec ≤ maxLen
  enem : SlX ePar w b.nA b.enem
  nc : b.enem.length ≤ b.nc ∧ b.nc ≤ maxLen
theorem BankL.In.ext {w w' : World} {b : BankL} (h : b.In w) (he : Ext w w') : b.In w' := ⟨h.now, h.gp.ext he, h.gq.ext he, h.outl.ext he, h.oc, h.assets.ext he, h.ac, h.ents.ext he, h.ec, h.enem.ext he, h.nc⟩
theorem BankL.packed (b : BankL) : ∃ CS : Array Value, b.agg = .agg CS ∧ CS.size = 7 ∧ CS.all (·.oneCell') = true ∧ b.cells.toArray = CS := ⟨_, rfl, rfl, by simp [IL.val, Value.oneCell'], rfl⟩
theorem BankL.ents_at {b : BankL} {i : Nat} {e : EntL} (h : b.ents[i]? = some e) : b.bank.ents[i]? = some e.ent := by
  unfold BankL.bank
  rw [List.getElem?_map, h]
  rfl
/-- What fits into a slice. -/
def ItSz (x : It.Item) : Prop := x.opts.length * 16 ≤ 140737488355328 ∧ x.chs.length * 8 ≤ 140737488355328 ∧ x.texts.length * 16 ≤ 140737488355328 ∧ x.assets.length * 8 ≤ 140737488355328
def RevSz (r : Rev.Rec) : Prop := r.ap.length * 8 ≤ 140737488355328 ∧ r.fa.length * 8 ≤ 140737488355328 ∧ r.log.length * 32 ≤ 140737488355328
structure EntSz (e : Ent) : Prop where
  vs : e.vers.length * 216 ≤ 140737488355328
  its : ∀ x ∈ e.vers, ItSz x
  ap : e.rev.ap.length * 8 ≤ 140737488355328
  fa : e.rev.fa.length * 8 ≤ 140737488355328
  log : e.rev.log.length * 32 ≤ 140737488355328
  rows : e.rows.length * 24 ≤ 140737488355328
  row : ∀ r ∈ e.rows, r.length * 8 ≤ 140737488355328
structure BankSz (b : Bank) : Prop where
  pts : b.pts.length * 8 ≤ 140737488355328
  prior : b.prior.length * 8 ≤ 140737488355328
  outl : b.outl.length * 32 ≤ 140737488355328
  assets : b.assets.length * 48 ≤ 140737488355328
  ents : b.ents.length * 136 ≤ 140737488355328
  ent : ∀ e ∈ b.ents, EntSz e
  enem : b.enem.length * 16 ≤ 140737488355328
end Bk
end Go.Proofs.YtfnmgcblhebdbaaGreatDoor
