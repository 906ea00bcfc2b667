/- How nodes come out of a row's reading. Conditions: those of each theorem. -/
import Derived.Test.YtdaccamiipknmaaGreatDoorIuO
import Derived.Test.YtdaccamiipknmaaGreatDoorIuE
namespace Go.Proofs.YtdaccamiipknmaaGreatDoor
open Go.ChangeShapes Go.WideShapes Go.ChangeAt Go.RowKit

/-- A node whose parts fit. -/
structure GoodN (x : Nd) : Prop where
  sz : ∀ d, SzOk d x
  n64 : ∀ d, N64 d x
def NodeOp {H : Type} (enc : TypeId × Value → H) (W : World) (fuel : Nat) : Prop := ∀ (cs : List Value) (y : DataW H × List MemPlace), DataW.trod enc Tryz.prog W 0 (fun _ => true) true fuel 34 cs = some y → Light Tryz.prog 34 y.1 →
  ∃ q : Nd × (Option Addr × Nat), cs = ndc q.1 q.2 ∧ KidsAt 2199023255552 0 fuel W q.2 q.1.kids ∧ GoodN q.1
theorem kids_openF {H : Type} {enc : TypeId × Value → H} {W : World} {fuel : Nat} {cs : List Value} {y : DataW H × List MemPlace} (ih : ∀ m, m < fuel → NodeOp enc W m) (h : DataW.trod enc Tryz.prog W 0 (fun _ => true) true fuel 32 cs = some y) (hy : Light Tryz.prog 32 y.1) :
    ∃ (A : Option Addr) (ks : List Nd) (c : Nat), cs = [.slice A ks.length c] ∧ KidsAt 2199023255552 0 fuel W (A, c) ks ∧ ks.length ≤ 140737488351232 ∧ ∀ k ∈ ks, GoodN k := by
  have ht := Tryz.underlying32
  have hk5 : Tryz.prog.cellsOf 34 = 5 := by kernel_rfl
  have hb64 : Tryz.prog.bytesOf 34 = 64 := by kernel_rfl
  rcases DataW.trod_slice ht h with ⟨rfl, _⟩ | ⟨a, len, cap, elems, rest, n, rfl, rfl, hyy, hb, hl, hm, hlen, hel, hsp, -⟩
  · exact ⟨none, [], 0, rfl, KidsAt.nil _ _ _ _ _, Nat.zero_le _, fun k hk => by cases hk⟩
  · obtain ⟨hrl, -⟩ := hsp rfl
    subst hyy
    simp only at hy
    have hw : cap * 64 ≤ 140737488351232 := by
      have := hy (((elems.map (·.1)).length + (rest.map (·.1)).length) * Tryz.prog.bytesOf 34) (by simp [DataW.weights, ht])
      simp only [List.length_map, reachBytes, hb64, hlen, hrl] at this
      rw [show len + (cap - len) = cap by omega] at this
      exact this
    have hel' : ∀ i, i < len → ∃ q : Nd × (Option Addr × Nat), W.cells? 0 (a.add (i * 5)) 5 = some (ndc q.1 q.2) ∧ KidsAt 2199023255552 0 n W q.2 q.1.kids ∧ GoodN q.1 := fun i hi => by
      have h1 := hel i hi
      have hi' : i < elems.length := by omega
      rw [List.getElem?_eq_getElem hi', hk5] at h1
      obtain ⟨cs', h2, h3⟩ := Option.bind_eq_some_iff.1 h1
      obtain ⟨q, rfl, hq⟩ := ih n (by omega) cs' _ h3 (fun m hm => by
        refine hy m ?_
        simp only [DataW.weights, ht]
        exact List.mem_cons_of_mem _ (List.mem_append_left _ (light_all (d := (elems[i]).1) (List.mem_map.2 ⟨_, List.getElem_mem hi', rfl⟩) m hm)))
      exact ⟨q, h2, hq⟩
    haveI : Inhabited Nd := ⟨.mk 0 0 0 ⟨#[]⟩ []⟩
    obtain ⟨f, hf⟩ := Deep.choose_lt (α := Nd × (Option Addr × Nat)) (n := len) (p := fun i q => W.cells? 0 (a.add (i * 5)) 5 = some (ndc q.1 q.2) ∧ KidsAt 2199023255552 0 n W q.2 q.1.kids ∧ GoodN q.1) hel'
    refine ⟨some a, (List.range len).map fun i => (f i).1, cap, by simp, ⟨by simp; omega, by simpa using hl, hm, ?_⟩, by simp; omega, fun x hx => ?_⟩
    · rcases Nat.eq_zero_or_pos len with h0 | h0
      · subst h0; exact Or.inl rfl
      · have key : ∀ i, i < len → ∀ j v, (ndc (f i).1 (f i).2)[j]? = some v → W.cell? (a.add (i * 5 + j)) = some v := fun i hi j v hv => by
          obtain ⟨_, hlen', hc⟩ := World.cells?_some (hf i hi).1
          have hj : j < 5 := by
            have : j < (ndc (f i).1 (f i).2).length := by
              rcases Nat.lt_or_ge j (ndc (f i).1 (f i).2).length with g | g
              · exact g
              · rw [List.getElem?_eq_none g] at hv; cases hv
            omega
          have := hc j hj
          rw [Deep.add_add] at this
          rw [this]; exact hv
        have h00 : ∃ v, W.cell? a = some v := by
          have := key 0 h0 0 _ rfl
          rw [Nat.zero_mul, Nat.add_zero] at this
          exact ⟨_, by simpa [Addr.add] using this⟩
        obtain ⟨v0, hv0⟩ := h00
        obtain ⟨b, off, spot⟩ := a
        have hspot : spot = none := by
          cases spot with
          | none => rfl
          | some z =>
            unfold World.cell? at hv0
            simp at hv0
            split at hv0 <;> simp at hv0
        subst hspot
        refine Or.inr ⟨b, off, (List.range len).map fun i => (f i).2, rfl, Nat.zero_le _, World.block_lt_of_cell? W _ hv0, by simp, fun i x M hx hM => ?_⟩
        have hi' : i < len := by
          rcases Nat.lt_or_ge i len with g | g
          · exact g
          · rw [List.getElem?_eq_none (by simpa using g)] at hx; cases hx
        have hx' : x = (f i).1 := by simp [hi'] at hx; exact hx.symm
        have hM' : M = (f i).2 := by simp [hi'] at hM; exact hM.symm
        subst hx' hM'
        refine ⟨fun j v hv => ?_, (hf i hi').2.1⟩
        have := key i hi' j v hv
        rwa [add_plain] at this
    · obtain ⟨i, hi, rfl⟩ := List.mem_map.1 hx
      exact (hf i (by simpa using hi)).2.2
theorem list5 {α : Type} {l : List α} (h : l.length = 5) : ∃ c0 c1 c2 c3 c4, l = [c0, c1, c2, c3, c4] := by
  match l, h with
  | [c0, c1, c2, c3, c4], _ => exact ⟨c0, c1, c2, c3, c4, rfl⟩
theorem fieldsF {H : Type} {enc : TypeId × Value → H} {W : World} {t : TypeId} {fs : Array Field} {fuel : Nat} {cs : List Value} {y : DataW H × List MemPlace} (hs : Tryz.prog.underlying t = some (.struct fs)) (h : DataW.trod enc Tryz.prog W 0 (fun _ => true) true fuel t cs = some y) (hy : Light Tryz.prog t y.1) :
    cs.length = Tryz.prog.cellsOf t ∧ ∃ n, fuel = n + 1 ∧ ∀ (i : Nat) (f : Field), fs[i]? = some f → ∃ z, DataW.trod enc Tryz.prog W 0 (fun _ => true) true n f.type ((cs.drop f.offset).take (Tryz.prog.cellsOf f.type)) = some z ∧ Light Tryz.prog f.type z.1 := by
  obtain ⟨xs, n, hfu, hyx, hl, hlen, hf⟩ := DataW.trod_struct hs h
  refine ⟨hl, n, hfu, fun i f hi => ?_⟩
  have hi' : i < xs.length := by
    rw [hlen]
    rcases Nat.lt_or_ge i fs.size with g | g
    · exact g
    · rw [Array.getElem?_eq_none g] at hi; cases hi
  refine ⟨xs[i], (hf i f hi).trans (List.getElem?_eq_getElem hi'), fun m hm => hy m ?_⟩
  rw [hyx]
  simp only [DataW.weights, hs]
  refine DataW.weights_mem_each (j := i) (t := f.type) (d := (xs[i]).1) ?_ ?_ m hm
  · rw [List.getElem?_map, Array.getElem?_toList, hi]; rfl
  · rw [List.getElem?_map, List.getElem?_eq_getElem hi']; rfl
theorem goodN_mk {t k n : Int} {s : ByteArray} {ks : List Nd} (hn : In64 n) (hs : s.size ≤ 140737488351232) (hl : ks.length ≤ 140737488351232) (hk : ∀ k ∈ ks, GoodN k) : GoodN (.mk t k n s ks) := by
  refine ⟨fun d => ?_, fun d => ?_⟩
  · cases d with
    | zero => exact ⟨hs, hl⟩
    | succ d => exact ⟨⟨hs, hl⟩, fun y hy => (hk y hy).sz d⟩
  · cases d with
    | zero => exact hn
    | succ d => exact ⟨hn, fun y hy => (hk y hy).n64 d⟩
set_option maxRecDepth 100000 in
set_option maxHeartbeats 1600000 in
theorem node_op {H : Type} {enc : TypeId × Value → H} {W : World} (fuel : Nat) : NodeOp enc W fuel := by
  induction fuel using Nat.strongRecOn with
  | _ fuel IH =>
    intro cs y h hy
    obtain ⟨hl, m, rfl, hf⟩ := fieldsF Tryz.underlying34 h hy
    obtain ⟨c0, c1, c2, c3, c4, rfl⟩ := list5 (hl.trans (by kernel_rfl))
    obtain ⟨z0, h0, l0⟩ := hf 0 _ rfl
    change DataW.trod enc Tryz.prog W 0 (fun _ => true) true m 3 (([c0, c1, c2, c3, c4].drop 0).take (Tryz.prog.cellsOf 3)) = some z0 at h0
    obtain ⟨z1, h1, l1⟩ := hf 1 _ rfl
    change DataW.trod enc Tryz.prog W 0 (fun _ => true) true m 3 (([c0, c1, c2, c3, c4].drop 1).take (Tryz.prog.cellsOf 3)) = some z1 at h1
    obtain ⟨z2, h2, l2⟩ := hf 2 _ rfl
    change DataW.trod enc Tryz.prog W 0 (fun _ => true) true m 2 (([c0, c1, c2, c3, c4].drop 2).take (Tryz.prog.cellsOf 2)) = some z2 at h2
    obtain ⟨z3, h3, l3⟩ := hf 3 _ rfl
    change DataW.trod enc Tryz.prog W 0 (fun _ => true) true m 9 (([c0, c1, c2, c3, c4].drop 3).take (Tryz.prog.cellsOf 9)) = some z3 at h3
    obtain ⟨z4, h4, l4⟩ := hf 4 _ rfl
    change DataW.trod enc Tryz.prog W 0 (fun _ => true) true m 32 (([c0, c1, c2, c3, c4].drop 4).take (Tryz.prog.cellsOf 32)) = some z4 at h4
    have k3 : Tryz.prog.cellsOf 3 = 1 := by kernel_rfl
    have k2 : Tryz.prog.cellsOf 2 = 1 := by kernel_rfl
    have k9 : Tryz.prog.cellsOf 9 = 1 := by kernel_rfl
    have ks : Tryz.prog.cellsOf 32 = 1 := by kernel_rfl
    simp only [k3, k2, k9, ks, List.drop_zero, List.take_succ_cons, List.take_zero, List.drop_succ_cons] at h0 h1 h2 h3 h4
    obtain ⟨a0, e0, -, w0⟩ := DataW.trod_int Tryz.underlying3 h0
    obtain ⟨a1, e1, -, w1⟩ := DataW.trod_int Tryz.underlying3 h1
    obtain ⟨a2, e2, -, w2⟩ := DataW.trod_int Tryz.underlying2 h2
    obtain ⟨a3, e3, b3⟩ := str_openW h3 l3
    obtain ⟨A4, K4, C4, e4, p4, q4, r4⟩ := kids_openF (fun m' hm' => IH m' (by omega)) h4 l4
    simp at e0 e1 e2 e3 e4
    subst e0 e1 e2 e3 e4
    exact ⟨(.mk a0 a1 a2 a3 K4, (A4, C4)), rfl, p4.deeper, goodN_mk (in64_of_wf w2) b3 q4 r4⟩
set_option maxRecDepth 100000 in
theorem node_open {H : Type} {enc : TypeId × Value → H} {W : World} {base : Nat} {v : Value} {d : DataW H} {p : List MemPlace} (hv : Value.okWide Tryz.prog W .any base 34 v)
    (h : DataW.Trod enc Tryz.prog W 0 (fun _ => true) true 34 v d p) (hd : Light Tryz.prog 34 d) : ∃ x M D, v = nda x M ∧ KidsAt 2199023255552 0 D W M x.kids ∧ GoodN x := by
  obtain ⟨⟨cs⟩, rfl, hsz⟩ := okWide_struct Tryz.underlying34 hv
  obtain ⟨fuel, hf⟩ := h
  obtain ⟨q, e, hq, hg⟩ := node_op fuel _ _ (by simpa [Value.cells] using hf) hd
  subst e
  exact ⟨q.1, q.2, fuel, rfl, hq, hg⟩
theorem KidsAt.kids_few {B lo d : Nat} {w : World} {M : Option Addr × Nat} {x : Nd} (h : KidsAt B lo (d + 1) w M x.kids) : ∀ y ∈ x.kids, y.kids.length ≤ B := fun y hy => by
  obtain ⟨i, hi, rfl⟩ := List.mem_iff_getElem.1 hy
  obtain ⟨_, _, _, _, _, _, _, _, _, _, hk⟩ := h.at_ (List.getElem?_eq_getElem hi)
  exact hk.few
end Go.Proofs.YtdaccamiipknmaaGreatDoor
