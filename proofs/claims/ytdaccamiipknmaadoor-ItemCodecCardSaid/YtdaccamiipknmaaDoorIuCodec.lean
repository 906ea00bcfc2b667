/- ItemCodec: for all items the law returns true. Conditions: the library's variable and the package's names lie as the row says. -/
import Derived.Test.YtdaccamiipknmaaDoorIuSucceeds
import Derived.Test.YtdaccamiipknmaaDoorIvC
import Derived.Deep.MidRow
namespace Go.Proofs.YtdaccamiipknmaaDoor
open Go.ChangeShapes Go.WideShapes Go.ChangeAt Go.RowKit Go.Shelf

theorem leafS_inj {a b : List ByteArray} (h : a.map leafS = b.map leafS) : a = b := by
  have h2 := congrArg (List.map Nd.s) h
  rw [List.map_map, List.map_map] at h2
  have e : ∀ l : List ByteArray, l.map (Nd.s ∘ leafS) = l := fun l => List.map_id' l
  rwa [e, e] at h2
theorem leafI_inj {a b : List Int} (h : a.map leafI = b.map leafI) : a = b := by
  have h2 := congrArg (List.map Nd.n) h
  rw [List.map_map, List.map_map] at h2
  have e : ∀ l : List Int, l.map (Nd.n ∘ leafI) = l := fun l => List.map_id' l
  rwa [e, e] at h2
theorem ndE_of {x y : Nd} {p : Prop} [Decidable p] (h : x = y ↔ p) : ndE x y = decide p := by rw [Bool.eq_iff_iff, ndE_iff, decide_eq_true_iff, h]
theorem has_nm0 (a b : It.Item) : It.hasN (It.diff a b) ⟨#[73, 100]⟩ = !(a.id == b.id) := by
  unfold It.hasN It.diff
  rw [It.foldN_any]
  have hm : It.eqB ⟨#[73, 100]⟩ ⟨#[73, 100]⟩ = true ∧ It.eqB ⟨#[86, 101, 114, 115, 105, 111, 110]⟩ ⟨#[73, 100]⟩ = false ∧ It.eqB ⟨#[75, 105, 110, 100]⟩ ⟨#[73, 100]⟩ = false ∧ It.eqB ⟨#[83, 116, 101, 109]⟩ ⟨#[73, 100]⟩ = false ∧ It.eqB ⟨#[79, 112, 116, 105, 111, 110, 115]⟩ ⟨#[73, 100]⟩ = false ∧ It.eqB ⟨#[67, 104, 111, 105, 99, 101, 115]⟩ ⟨#[73, 100]⟩ = false ∧ It.eqB ⟨#[86, 97, 108, 117, 101]⟩ ⟨#[73, 100]⟩ = false ∧ It.eqB ⟨#[84, 111, 108]⟩ ⟨#[73, 100]⟩ = false ∧ It.eqB ⟨#[84, 101, 120, 116, 115]⟩ ⟨#[73, 100]⟩ = false ∧ It.eqB ⟨#[80, 111, 105, 110, 116, 115]⟩ ⟨#[73, 100]⟩ = false ∧ It.eqB ⟨#[67, 111, 110, 116, 101, 110, 116]⟩ ⟨#[73, 100]⟩ = false ∧ It.eqB ⟨#[70, 97, 109, 105, 108, 121]⟩ ⟨#[73, 100]⟩ = false ∧ It.eqB ⟨#[83, 101, 116]⟩ ⟨#[73, 100]⟩ = false ∧ It.eqB ⟨#[87, 111, 114, 100, 115]⟩ ⟨#[73, 100]⟩ = false ∧ It.eqB ⟨#[83, 101, 99, 111, 110, 100, 115]⟩ ⟨#[73, 100]⟩ = false ∧ It.eqB ⟨#[65, 115, 115, 101, 116, 115]⟩ ⟨#[73, 100]⟩ = false ∧ It.eqB ⟨#[82, 117, 98, 114, 105, 99]⟩ ⟨#[73, 100]⟩ = false := by decide
  obtain ⟨m0, m1, m2, m3, m4, m5, m6, m7, m8, m9, m10, m11, m12, m13, m14, m15, m16⟩ := hm
  simp only [It.pairs, List.any_cons, List.any_nil, m0, m1, m2, m3, m4, m5, m6, m7, m8, m9, m10, m11, m12, m13, m14, m15, m16, Bool.and_true, Bool.and_false, Bool.or_false, bne]
theorem has_nm1 (a b : It.Item) : It.hasN (It.diff a b) ⟨#[86, 101, 114, 115, 105, 111, 110]⟩ = !(a.ver == b.ver) := by
  unfold It.hasN It.diff
  rw [It.foldN_any]
  have hm : It.eqB ⟨#[73, 100]⟩ ⟨#[86, 101, 114, 115, 105, 111, 110]⟩ = false ∧ It.eqB ⟨#[86, 101, 114, 115, 105, 111, 110]⟩ ⟨#[86, 101, 114, 115, 105, 111, 110]⟩ = true ∧ It.eqB ⟨#[75, 105, 110, 100]⟩ ⟨#[86, 101, 114, 115, 105, 111, 110]⟩ = false ∧ It.eqB ⟨#[83, 116, 101, 109]⟩ ⟨#[86, 101, 114, 115, 105, 111, 110]⟩ = false ∧ It.eqB ⟨#[79, 112, 116, 105, 111, 110, 115]⟩ ⟨#[86, 101, 114, 115, 105, 111, 110]⟩ = false ∧ It.eqB ⟨#[67, 104, 111, 105, 99, 101, 115]⟩ ⟨#[86, 101, 114, 115, 105, 111, 110]⟩ = false ∧ It.eqB ⟨#[86, 97, 108, 117, 101]⟩ ⟨#[86, 101, 114, 115, 105, 111, 110]⟩ = false ∧ It.eqB ⟨#[84, 111, 108]⟩ ⟨#[86, 101, 114, 115, 105, 111, 110]⟩ = false ∧ It.eqB ⟨#[84, 101, 120, 116, 115]⟩ ⟨#[86, 101, 114, 115, 105, 111, 110]⟩ = false ∧ It.eqB ⟨#[80, 111, 105, 110, 116, 115]⟩ ⟨#[86, 101, 114, 115, 105, 111, 110]⟩ = false ∧ It.eqB ⟨#[67, 111, 110, 116, 101, 110, 116]⟩ ⟨#[86, 101, 114, 115, 105, 111, 110]⟩ = false ∧ It.eqB ⟨#[70, 97, 109, 105, 108, 121]⟩ ⟨#[86, 101, 114, 115, 105, 111, 110]⟩ = false ∧ It.eqB ⟨#[83, 101, 116]⟩ ⟨#[86, 101, 114, 115, 105, 111, 110]⟩ = false ∧ It.eqB ⟨#[87, 111, 114, 100, 115]⟩ ⟨#[86, 101, 114, 115, 105, 111, 110]⟩ = false ∧ It.eqB ⟨#[83, 101, 99, 111, 110, 100, 115]⟩ ⟨#[86, 101, 114, 115, 105, 111, 110]⟩ = false ∧ It.eqB ⟨#[65, 115, 115, 101, 116, 115]⟩ ⟨#[86, 101, 114, 115, 105, 111, 110]⟩ = false ∧ It.eqB ⟨#[82, 117, 98, 114, 105, 99]⟩ ⟨#[86, 101, 114, 115, 105, 111, 110]⟩ = false := by decide
  obtain ⟨m0, m1, m2, m3, m4, m5, m6, m7, m8, m9, m10, m11, m12, m13, m14, m15, m16⟩ := hm
  simp only [It.pairs, List.any_cons, List.any_nil, m0, m1, m2, m3, m4, m5, m6, m7, m8, m9, m10, m11, m12, m13, m14, m15, m16, Bool.and_true, Bool.and_false, Bool.or_false, Bool.false_or, bne]
theorem has_nm2 (a b : It.Item) : It.hasN (It.diff a b) ⟨#[75, 105, 110, 100]⟩ = !(a.kind == b.kind) := by
  unfold It.hasN It.diff
  rw [It.foldN_any]
  have hm : It.eqB ⟨#[73, 100]⟩ ⟨#[75, 105, 110, 100]⟩ = false ∧ It.eqB ⟨#[86, 101, 114, 115, 105, 111, 110]⟩ ⟨#[75, 105, 110, 100]⟩ = false ∧ It.eqB ⟨#[75, 105, 110, 100]⟩ ⟨#[75, 105, 110, 100]⟩ = true ∧ It.eqB ⟨#[83, 116, 101, 109]⟩ ⟨#[75, 105, 110, 100]⟩ = false ∧ It.eqB ⟨#[79, 112, 116, 105, 111, 110, 115]⟩ ⟨#[75, 105, 110, 100]⟩ = false ∧ It.eqB ⟨#[67, 104, 111, 105, 99, 101, 115]⟩ ⟨#[75, 105, 110, 100]⟩ = false ∧ It.eqB ⟨#[86, 97, 108, 117, 101]⟩ ⟨#[75, 105, 110, 100]⟩ = false ∧ It.eqB ⟨#[84, 111, 108]⟩ ⟨#[75, 105, 110, 100]⟩ = false ∧ It.eqB ⟨#[84, 101, 120, 116, 115]⟩ ⟨#[75, 105, 110, 100]⟩ = false ∧ It.eqB ⟨#[80, 111, 105, 110, 116, 115]⟩ ⟨#[75, 105, 110, 100]⟩ = false ∧ It.eqB ⟨#[67, 111, 110, 116, 101, 110, 116]⟩ ⟨#[75, 105, 110, 100]⟩ = false ∧ It.eqB ⟨#[70, 97, 109, 105, 108, 121]⟩ ⟨#[75, 105, 110, 100]⟩ = false ∧ It.eqB ⟨#[83, 101, 116]⟩ ⟨#[75, 105, 110, 100]⟩ = false ∧ It.eqB ⟨#[87, 111, 114, 100, 115]⟩ ⟨#[75, 105, 110, 100]⟩ = false ∧ It.eqB ⟨#[83, 101, 99, 111, 110, 100, 115]⟩ ⟨#[75, 105, 110, 100]⟩ = false ∧ It.eqB ⟨#[65, 115, 115, 101, 116, 115]⟩ ⟨#[75, 105, 110, 100]⟩ = false ∧ It.eqB ⟨#[82, 117, 98, 114, 105, 99]⟩ ⟨#[75, 105, 110, 100]⟩ = false := by decide
  obtain ⟨m0, m1, m2, m3, m4, m5, m6, m7, m8, m9, m10, m11, m12, m13, m14, m15, m16⟩ := hm
  simp only [It.pairs, List.any_cons, List.any_nil, m0, m1, m2, m3, m4, m5, m6, m7, m8, m9, m10, m11, m12, m13, m14, m15, m16, Bool.and_true, Bool.and_false, Bool.or_false, Bool.false_or, bne]
theorem has_nm3 (a b : It.Item) : It.hasN (It.diff a b) ⟨#[83, 116, 101, 109]⟩ = !(It.eqB a.stem b.stem) := by
  unfold It.hasN It.diff
  rw [It.foldN_any]
  have hm : It.eqB ⟨#[73, 100]⟩ ⟨#[83, 116, 101, 109]⟩ = false ∧ It.eqB ⟨#[86, 101, 114, 115, 105, 111, 110]⟩ ⟨#[83, 116, 101, 109]⟩ = false ∧ It.eqB ⟨#[75, 105, 110, 100]⟩ ⟨#[83, 116, 101, 109]⟩ = false ∧ It.eqB ⟨#[83, 116, 101, 109]⟩ ⟨#[83, 116, 101, 109]⟩ = true ∧ It.eqB ⟨#[79, 112, 116, 105, 111, 110, 115]⟩ ⟨#[83, 116, 101, 109]⟩ = false ∧ It.eqB ⟨#[67, 104, 111, 105, 99, 101, 115]⟩ ⟨#[83, 116, 101, 109]⟩ = false ∧ It.eqB ⟨#[86, 97, 108, 117, 101]⟩ ⟨#[83, 116, 101, 109]⟩ = false ∧ It.eqB ⟨#[84, 111, 108]⟩ ⟨#[83, 116, 101, 109]⟩ = false ∧ It.eqB ⟨#[84, 101, 120, 116, 115]⟩ ⟨#[83, 116, 101, 109]⟩ = false ∧ It.eqB ⟨#[80, 111, 105, 110, 116, 115]⟩ ⟨#[83, 116, 101, 109]⟩ = false ∧ It.eqB ⟨#[67, 111, 110, 116, 101, 110, 116]⟩ ⟨#[83, 116, 101, 109]⟩ = false ∧ It.eqB ⟨#[70, 97, 109, 105, 108, 121]⟩ ⟨#[83, 116, 101, 109]⟩ = false ∧ It.eqB ⟨#[83, 101, 116]⟩ ⟨#[83, 116, 101, 109]⟩ = false ∧ It.eqB ⟨#[87, 111, 114, 100, 115]⟩ ⟨#[83, 116, 101, 109]⟩ = false ∧ It.eqB ⟨#[83, 101, 99, 111, 110, 100, 115]⟩ ⟨#[83, 116, 101, 109]⟩ = false ∧ It.eqB ⟨#[65, 115, 115, 101, 116, 115]⟩ ⟨#[83, 116, 101, 109]⟩ = false ∧ It.eqB ⟨#[82, 117, 98, 114, 105, 99]⟩ ⟨#[83, 116, 101, 109]⟩ = false := by decide
  obtain ⟨m0, m1, m2, m3, m4, m5, m6, m7, m8, m9, m10, m11, m12, m13, m14, m15, m16⟩ := hm
  simp only [It.pairs, List.any_cons, List.any_nil, m0, m1, m2, m3, m4, m5, m6, m7, m8, m9, m10, m11, m12, m13, m14, m15, m16, Bool.and_true, Bool.and_false, Bool.or_false, Bool.false_or]
theorem has_nm4 (a b : It.Item) : It.hasN (It.diff a b) ⟨#[79, 112, 116, 105, 111, 110, 115]⟩ = !(It.eqS a.opts b.opts) := by
  unfold It.hasN It.diff
  rw [It.foldN_any]
  have hm : It.eqB ⟨#[73, 100]⟩ ⟨#[79, 112, 116, 105, 111, 110, 115]⟩ = false ∧ It.eqB ⟨#[86, 101, 114, 115, 105, 111, 110]⟩ ⟨#[79, 112, 116, 105, 111, 110, 115]⟩ = false ∧ It.eqB ⟨#[75, 105, 110, 100]⟩ ⟨#[79, 112, 116, 105, 111, 110, 115]⟩ = false ∧ It.eqB ⟨#[83, 116, 101, 109]⟩ ⟨#[79, 112, 116, 105, 111, 110, 115]⟩ = false ∧ It.eqB ⟨#[79, 112, 116, 105, 111, 110, 115]⟩ ⟨#[79, 112, 116, 105, 111, 110, 115]⟩ = true ∧ It.eqB ⟨#[67, 104, 111, 105, 99, 101, 115]⟩ ⟨#[79, 112, 116, 105, 111, 110, 115]⟩ = false ∧ It.eqB ⟨#[86, 97, 108, 117, 101]⟩ ⟨#[79, 112, 116, 105, 111, 110, 115]⟩ = false ∧ It.eqB ⟨#[84, 111, 108]⟩ ⟨#[79, 112, 116, 105, 111, 110, 115]⟩ = false ∧ It.eqB ⟨#[84, 101, 120, 116, 115]⟩ ⟨#[79, 112, 116, 105, 111, 110, 115]⟩ = false ∧ It.eqB ⟨#[80, 111, 105, 110, 116, 115]⟩ ⟨#[79, 112, 116, 105, 111, 110, 115]⟩ = false ∧ It.eqB ⟨#[67, 111, 110, 116, 101, 110, 116]⟩ ⟨#[79, 112, 116, 105, 111, 110, 115]⟩ = false ∧ It.eqB ⟨#[70, 97, 109, 105, 108, 121]⟩ ⟨#[79, 112, 116, 105, 111, 110, 115]⟩ = false ∧ It.eqB ⟨#[83, 101, 116]⟩ ⟨#[79, 112, 116, 105, 111, 110, 115]⟩ = false ∧ It.eqB ⟨#[87, 111, 114, 100, 115]⟩ ⟨#[79, 112, 116, 105, 111, 110, 115]⟩ = false ∧ It.eqB ⟨#[83, 101, 99, 111, 110, 100, 115]⟩ ⟨#[79, 112, 116, 105, 111, 110, 115]⟩ = false ∧ It.eqB ⟨#[65, 115, 115, 101, 116, 115]⟩ ⟨#[79, 112, 116, 105, 111, 110, 115]⟩ = false ∧ It.eqB ⟨#[82, 117, 98, 114, 105, 99]⟩ ⟨#[79, 112, 116, 105, 111, 110, 115]⟩ = false := by decide
  obtain ⟨m0, m1, m2, m3, m4, m5, m6, m7, m8, m9, m10, m11, m12, m13, m14, m15, m16⟩ := hm
  simp only [It.pairs, List.any_cons, List.any_nil, m0, m1, m2, m3, m4, m5, m6, m7, m8, m9, m10, m11, m12, m13, m14, m15, m16, Bool.and_true, Bool.and_false, Bool.or_false, Bool.false_or]
theorem has_nm5 (a b : It.Item) : It.hasN (It.diff a b) ⟨#[67, 104, 111, 105, 99, 101, 115]⟩ = !(It.eqI a.chs b.chs) := by
  unfold It.hasN It.diff
  rw [It.foldN_any]
  have hm : It.eqB ⟨#[73, 100]⟩ ⟨#[67, 104, 111, 105, 99, 101, 115]⟩ = false ∧ It.eqB ⟨#[86, 101, 114, 115, 105, 111, 110]⟩ ⟨#[67, 104, 111, 105, 99, 101, 115]⟩ = false ∧ It.eqB ⟨#[75, 105, 110, 100]⟩ ⟨#[67, 104, 111, 105, 99, 101, 115]⟩ = false ∧ It.eqB ⟨#[83, 116, 101, 109]⟩ ⟨#[67, 104, 111, 105, 99, 101, 115]⟩ = false ∧ It.eqB ⟨#[79, 112, 116, 105, 111, 110, 115]⟩ ⟨#[67, 104, 111, 105, 99, 101, 115]⟩ = false ∧ It.eqB ⟨#[67, 104, 111, 105, 99, 101, 115]⟩ ⟨#[67, 104, 111, 105, 99, 101, 115]⟩ = true ∧ It.eqB ⟨#[86, 97, 108, 117, 101]⟩ ⟨#[67, 104, 111, 105, 99, 101, 115]⟩ = false ∧ It.eqB ⟨#[84, 111, 108]⟩ ⟨#[67, 104, 111, 105, 99, 101, 115]⟩ = false ∧ It.eqB ⟨#[84, 101, 120, 116, 115]⟩ ⟨#[67, 104, 111, 105, 99, 101, 115]⟩ = false ∧ It.eqB ⟨#[80, 111, 105, 110, 116, 115]⟩ ⟨#[67, 104, 111, 105, 99, 101, 115]⟩ = false ∧ It.eqB ⟨#[67, 111, 110, 116, 101, 110, 116]⟩ ⟨#[67, 104, 111, 105, 99, 101, 115]⟩ = false ∧ It.eqB ⟨#[70, 97, 109, 105, 108, 121]⟩ ⟨#[67, 104, 111, 105, 99, 101, 115]⟩ = false ∧ It.eqB ⟨#[83, 101, 116]⟩ ⟨#[67, 104, 111, 105, 99, 101, 115]⟩ = false ∧ It.eqB ⟨#[87, 111, 114, 100, 115]⟩ ⟨#[67, 104, 111, 105, 99, 101, 115]⟩ = false ∧ It.eqB ⟨#[83, 101, 99, 111, 110, 100, 115]⟩ ⟨#[67, 104, 111, 105, 99, 101, 115]⟩ = false ∧ It.eqB ⟨#[65, 115, 115, 101, 116, 115]⟩ ⟨#[67, 104, 111, 105, 99, 101, 115]⟩ = false ∧ It.eqB ⟨#[82, 117, 98, 114, 105, 99]⟩ ⟨#[67, 104, 111, 105, 99, 101, 115]⟩ = false := by decide
  obtain ⟨m0, m1, m2, m3, m4, m5, m6, m7, m8, m9, m10, m11, m12, m13, m14, m15, m16⟩ := hm
  simp only [It.pairs, List.any_cons, List.any_nil, m0, m1, m2, m3, m4, m5, m6, m7, m8, m9, m10, m11, m12, m13, m14, m15, m16, Bool.and_true, Bool.and_false, Bool.or_false, Bool.false_or]
theorem has_nm6 (a b : It.Item) : It.hasN (It.diff a b) ⟨#[86, 97, 108, 117, 101]⟩ = !(a.value == b.value) := by
  unfold It.hasN It.diff
  rw [It.foldN_any]
  have hm : It.eqB ⟨#[73, 100]⟩ ⟨#[86, 97, 108, 117, 101]⟩ = false ∧ It.eqB ⟨#[86, 101, 114, 115, 105, 111, 110]⟩ ⟨#[86, 97, 108, 117, 101]⟩ = false ∧ It.eqB ⟨#[75, 105, 110, 100]⟩ ⟨#[86, 97, 108, 117, 101]⟩ = false ∧ It.eqB ⟨#[83, 116, 101, 109]⟩ ⟨#[86, 97, 108, 117, 101]⟩ = false ∧ It.eqB ⟨#[79, 112, 116, 105, 111, 110, 115]⟩ ⟨#[86, 97, 108, 117, 101]⟩ = false ∧ It.eqB ⟨#[67, 104, 111, 105, 99, 101, 115]⟩ ⟨#[86, 97, 108, 117, 101]⟩ = false ∧ It.eqB ⟨#[86, 97, 108, 117, 101]⟩ ⟨#[86, 97, 108, 117, 101]⟩ = true ∧ It.eqB ⟨#[84, 111, 108]⟩ ⟨#[86, 97, 108, 117, 101]⟩ = false ∧ It.eqB ⟨#[84, 101, 120, 116, 115]⟩ ⟨#[86, 97, 108, 117, 101]⟩ = false ∧ It.eqB ⟨#[80, 111, 105, 110, 116, 115]⟩ ⟨#[86, 97, 108, 117, 101]⟩ = false ∧ It.eqB ⟨#[67, 111, 110, 116, 101, 110, 116]⟩ ⟨#[86, 97, 108, 117, 101]⟩ = false ∧ It.eqB ⟨#[70, 97, 109, 105, 108, 121]⟩ ⟨#[86, 97, 108, 117, 101]⟩ = false ∧ It.eqB ⟨#[83, 101, 116]⟩ ⟨#[86, 97, 108, 117, 101]⟩ = false ∧ It.eqB ⟨#[87, 111, 114, 100, 115]⟩ ⟨#[86, 97, 108, 117, 101]⟩ = false ∧ It.eqB ⟨#[83, 101, 99, 111, 110, 100, 115]⟩ ⟨#[86, 97, 108, 117, 101]⟩ = false ∧ It.eqB ⟨#[65, 115, 115, 101, 116, 115]⟩ ⟨#[86, 97, 108, 117, 101]⟩ = false ∧ It.eqB ⟨#[82, 117, 98, 114, 105, 99]⟩ ⟨#[86, 97, 108, 117, 101]⟩ = false := by decide
  obtain ⟨m0, m1, m2, m3, m4, m5, m6, m7, m8, m9, m10, m11, m12, m13, m14, m15, m16⟩ := hm
  simp only [It.pairs, List.any_cons, List.any_nil, m0, m1, m2, m3, m4, m5, m6, m7, m8, m9, m10, m11, m12, m13, m14, m15, m16, Bool.and_true, Bool.and_false, Bool.or_false, Bool.false_or, bne]
theorem has_nm7 (a b : It.Item) : It.hasN (It.diff a b) ⟨#[84, 111, 108]⟩ = !(a.tol == b.tol) := by
  unfold It.hasN It.diff
  rw [It.foldN_any]
  have hm : It.eqB ⟨#[73, 100]⟩ ⟨#[84, 111, 108]⟩ = false ∧ It.eqB ⟨#[86, 101, 114, 115, 105, 111, 110]⟩ ⟨#[84, 111, 108]⟩ = false ∧ It.eqB ⟨#[75, 105, 110, 100]⟩ ⟨#[84, 111, 108]⟩ = false ∧ It.eqB ⟨#[83, 116, 101, 109]⟩ ⟨#[84, 111, 108]⟩ = false ∧ It.eqB ⟨#[79, 112, 116, 105, 111, 110, 115]⟩ ⟨#[84, 111, 108]⟩ = false ∧ It.eqB ⟨#[67, 104, 111, 105, 99, 101, 115]⟩ ⟨#[84, 111, 108]⟩ = false ∧ It.eqB ⟨#[86, 97, 108, 117, 101]⟩ ⟨#[84, 111, 108]⟩ = false ∧ It.eqB ⟨#[84, 111, 108]⟩ ⟨#[84, 111, 108]⟩ = true ∧ It.eqB ⟨#[84, 101, 120, 116, 115]⟩ ⟨#[84, 111, 108]⟩ = false ∧ It.eqB ⟨#[80, 111, 105, 110, 116, 115]⟩ ⟨#[84, 111, 108]⟩ = false ∧ It.eqB ⟨#[67, 111, 110, 116, 101, 110, 116]⟩ ⟨#[84, 111, 108]⟩ = false ∧ It.eqB ⟨#[70, 97, 109, 105, 108, 121]⟩ ⟨#[84, 111, 108]⟩ = false ∧ It.eqB ⟨#[83, 101, 116]⟩ ⟨#[84, 111, 108]⟩ = false ∧ It.eqB ⟨#[87, 111, 114, 100, 115]⟩ ⟨#[84, 111, 108]⟩ = false ∧ It.eqB ⟨#[83, 101, 99, 111, 110, 100, 115]⟩ ⟨#[84, 111, 108]⟩ = false ∧ It.eqB ⟨#[65, 115, 115, 101, 116, 115]⟩ ⟨#[84, 111, 108]⟩ = false ∧ It.eqB ⟨#[82, 117, 98, 114, 105, 99]⟩ ⟨#[84, 111, 108]⟩ = false := by decide
  obtain ⟨m0, m1, m2, m3, m4, m5, m6, m7, m8, m9, m10, m11, m12, m13, m14, m15, m16⟩ := hm
  simp only [It.pairs, List.any_cons, List.any_nil, m0, m1, m2, m3, m4, m5, m6, m7, m8, m9, m10, m11, m12, m13, m14, m15, m16, Bool.and_true, Bool.and_false, Bool.or_false, Bool.false_or, bne]
theorem has_nm8 (a b : It.Item) : It.hasN (It.diff a b) ⟨#[84, 101, 120, 116, 115]⟩ = !(It.eqS a.texts b.texts) := by
  unfold It.hasN It.diff
  rw [It.foldN_any]
  have hm : It.eqB ⟨#[73, 100]⟩ ⟨#[84, 101, 120, 116, 115]⟩ = false ∧ It.eqB ⟨#[86, 101, 114, 115, 105, 111, 110]⟩ ⟨#[84, 101, 120, 116, 115]⟩ = false ∧ It.eqB ⟨#[75, 105, 110, 100]⟩ ⟨#[84, 101, 120, 116, 115]⟩ = false ∧ It.eqB ⟨#[83, 116, 101, 109]⟩ ⟨#[84, 101, 120, 116, 115]⟩ = false ∧ It.eqB ⟨#[79, 112, 116, 105, 111, 110, 115]⟩ ⟨#[84, 101, 120, 116, 115]⟩ = false ∧ It.eqB ⟨#[67, 104, 111, 105, 99, 101, 115]⟩ ⟨#[84, 101, 120, 116, 115]⟩ = false ∧ It.eqB ⟨#[86, 97, 108, 117, 101]⟩ ⟨#[84, 101, 120, 116, 115]⟩ = false ∧ It.eqB ⟨#[84, 111, 108]⟩ ⟨#[84, 101, 120, 116, 115]⟩ = false ∧ It.eqB ⟨#[84, 101, 120, 116, 115]⟩ ⟨#[84, 101, 120, 116, 115]⟩ = true ∧ It.eqB ⟨#[80, 111, 105, 110, 116, 115]⟩ ⟨#[84, 101, 120, 116, 115]⟩ = false ∧ It.eqB ⟨#[67, 111, 110, 116, 101, 110, 116]⟩ ⟨#[84, 101, 120, 116, 115]⟩ = false ∧ It.eqB ⟨#[70, 97, 109, 105, 108, 121]⟩ ⟨#[84, 101, 120, 116, 115]⟩ = false ∧ It.eqB ⟨#[83, 101, 116]⟩ ⟨#[84, 101, 120, 116, 115]⟩ = false ∧ It.eqB ⟨#[87, 111, 114, 100, 115]⟩ ⟨#[84, 101, 120, 116, 115]⟩ = false ∧ It.eqB ⟨#[83, 101, 99, 111, 110, 100, 115]⟩ ⟨#[84, 101, 120, 116, 115]⟩ = false ∧ It.eqB ⟨#[65, 115, 115, 101, 116, 115]⟩ ⟨#[84, 101, 120, 116, 115]⟩ = false ∧ It.eqB ⟨#[82, 117, 98, 114, 105, 99]⟩ ⟨#[84, 101, 120, 116, 115]⟩ = false := by decide
  obtain ⟨m0, m1, m2, m3, m4, m5, m6, m7, m8, m9, m10, m11, m12, m13, m14, m15, m16⟩ := hm
  simp only [It.pairs, List.any_cons, List.any_nil, m0, m1, m2, m3, m4, m5, m6, m7, m8, m9, m10, m11, m12, m13, m14, m15, m16, Bool.and_true, Bool.and_false, Bool.or_false, Bool.false_or]
theorem has_nm9 (a b : It.Item) : It.hasN (It.diff a b) ⟨#[80, 111, 105, 110, 116, 115]⟩ = !(a.pts == b.pts) := by
  unfold It.hasN It.diff
  rw [It.foldN_any]
  have hm : It.eqB ⟨#[73, 100]⟩ ⟨#[80, 111, 105, 110, 116, 115]⟩ = false ∧ It.eqB ⟨#[86, 101, 114, 115, 105, 111, 110]⟩ ⟨#[80, 111, 105, 110, 116, 115]⟩ = false ∧ It.eqB ⟨#[75, 105, 110, 100]⟩ ⟨#[80, 111, 105, 110, 116, 115]⟩ = false ∧ It.eqB ⟨#[83, 116, 101, 109]⟩ ⟨#[80, 111, 105, 110, 116, 115]⟩ = false ∧ It.eqB ⟨#[79, 112, 116, 105, 111, 110, 115]⟩ ⟨#[80, 111, 105, 110, 116, 115]⟩ = false ∧ It.eqB ⟨#[67, 104, 111, 105, 99, 101, 115]⟩ ⟨#[80, 111, 105, 110, 116, 115]⟩ = false ∧ It.eqB ⟨#[86, 97, 108, 117, 101]⟩ ⟨#[80, 111, 105, 110, 116, 115]⟩ = false ∧ It.eqB ⟨#[84, 111, 108]⟩ ⟨#[80, 111, 105, 110, 116, 115]⟩ = false ∧ It.eqB ⟨#[84, 101, 120, 116, 115]⟩ ⟨#[80, 111, 105, 110, 116, 115]⟩ = false ∧ It.eqB ⟨#[80, 111, 105, 110, 116, 115]⟩ ⟨#[80, 111, 105, 110, 116, 115]⟩ = true ∧ It.eqB ⟨#[67, 111, 110, 116, 101, 110, 116]⟩ ⟨#[80, 111, 105, 110, 116, 115]⟩ = false ∧ It.eqB ⟨#[70, 97, 109, 105, 108, 121]⟩ ⟨#[80, 111, 105, 110, 116, 115]⟩ = false ∧ It.eqB ⟨#[83, 101, 116]⟩ ⟨#[80, 111, 105, 110, 116, 115]⟩ = false ∧ It.eqB ⟨#[87, 111, 114, 100, 115]⟩ ⟨#[80, 111, 105, 110, 116, 115]⟩ = false ∧ It.eqB ⟨#[83, 101, 99, 111, 110, 100, 115]⟩ ⟨#[80, 111, 105, 110, 116, 115]⟩ = false ∧ It.eqB ⟨#[65, 115, 115, 101, 116, 115]⟩ ⟨#[80, 111, 105, 110, 116, 115]⟩ = false ∧ It.eqB ⟨#[82, 117, 98, 114, 105, 99]⟩ ⟨#[80, 111, 105, 110, 116, 115]⟩ = false := by decide
  obtain ⟨m0, m1, m2, m3, m4, m5, m6, m7, m8, m9, m10, m11, m12, m13, m14, m15, m16⟩ := hm
  simp only [It.pairs, List.any_cons, List.any_nil, m0, m1, m2, m3, m4, m5, m6, m7, m8, m9, m10, m11, m12, m13, m14, m15, m16, Bool.and_true, Bool.and_false, Bool.or_false, Bool.false_or, bne]
theorem has_nm10 (a b : It.Item) : It.hasN (It.diff a b) ⟨#[67, 111, 110, 116, 101, 110, 116]⟩ = !(It.eqB a.cont b.cont) := by
  unfold It.hasN It.diff
  rw [It.foldN_any]
  have hm : It.eqB ⟨#[73, 100]⟩ ⟨#[67, 111, 110, 116, 101, 110, 116]⟩ = false ∧ It.eqB ⟨#[86, 101, 114, 115, 105, 111, 110]⟩ ⟨#[67, 111, 110, 116, 101, 110, 116]⟩ = false ∧ It.eqB ⟨#[75, 105, 110, 100]⟩ ⟨#[67, 111, 110, 116, 101, 110, 116]⟩ = false ∧ It.eqB ⟨#[83, 116, 101, 109]⟩ ⟨#[67, 111, 110, 116, 101, 110, 116]⟩ = false ∧ It.eqB ⟨#[79, 112, 116, 105, 111, 110, 115]⟩ ⟨#[67, 111, 110, 116, 101, 110, 116]⟩ = false ∧ It.eqB ⟨#[67, 104, 111, 105, 99, 101, 115]⟩ ⟨#[67, 111, 110, 116, 101, 110, 116]⟩ = false ∧ It.eqB ⟨#[86, 97, 108, 117, 101]⟩ ⟨#[67, 111, 110, 116, 101, 110, 116]⟩ = false ∧ It.eqB ⟨#[84, 111, 108]⟩ ⟨#[67, 111, 110, 116, 101, 110, 116]⟩ = false ∧ It.eqB ⟨#[84, 101, 120, 116, 115]⟩ ⟨#[67, 111, 110, 116, 101, 110, 116]⟩ = false ∧ It.eqB ⟨#[80, 111, 105, 110, 116, 115]⟩ ⟨#[67, 111, 110, 116, 101, 110, 116]⟩ = false ∧ It.eqB ⟨#[67, 111, 110, 116, 101, 110, 116]⟩ ⟨#[67, 111, 110, 116, 101, 110, 116]⟩ = true ∧ It.eqB ⟨#[70, 97, 109, 105, 108, 121]⟩ ⟨#[67, 111, 110, 116, 101, 110, 116]⟩ = false ∧ It.eqB ⟨#[83, 101, 116]⟩ ⟨#[67, 111, 110, 116, 101, 110, 116]⟩ = false ∧ It.eqB ⟨#[87, 111, 114, 100, 115]⟩ ⟨#[67, 111, 110, 116, 101, 110, 116]⟩ = false ∧ It.eqB ⟨#[83, 101, 99, 111, 110, 100, 115]⟩ ⟨#[67, 111, 110, 116, 101, 110, 116]⟩ = false ∧ It.eqB ⟨#[65, 115, 115, 101, 116, 115]⟩ ⟨#[67, 111, 110, 116, 101, 110, 116]⟩ = false ∧ It.eqB ⟨#[82, 117, 98, 114, 105, 99]⟩ ⟨#[67, 111, 110, 116, 101, 110, 116]⟩ = false := by decide
  obtain ⟨m0, m1, m2, m3, m4, m5, m6, m7, m8, m9, m10, m11, m12, m13, m14, m15, m16⟩ := hm
  simp only [It.pairs, List.any_cons, List.any_nil, m0, m1, m2, m3, m4, m5, m6, m7, m8, m9, m10, m11, m12, m13, m14, m15, m16, Bool.and_true, Bool.and_false, Bool.or_false, Bool.false_or]
theorem has_nm11 (a b : It.Item) : It.hasN (It.diff a b) ⟨#[70, 97, 109, 105, 108, 121]⟩ = !(a.fam == b.fam) := by
  unfold It.hasN It.diff
  rw [It.foldN_any]
  have hm : It.eqB ⟨#[73, 100]⟩ ⟨#[70, 97, 109, 105, 108, 121]⟩ = false ∧ It.eqB ⟨#[86, 101, 114, 115, 105, 111, 110]⟩ ⟨#[70, 97, 109, 105, 108, 121]⟩ = false ∧ It.eqB ⟨#[75, 105, 110, 100]⟩ ⟨#[70, 97, 109, 105, 108, 121]⟩ = false ∧ It.eqB ⟨#[83, 116, 101, 109]⟩ ⟨#[70, 97, 109, 105, 108, 121]⟩ = false ∧ It.eqB ⟨#[79, 112, 116, 105, 111, 110, 115]⟩ ⟨#[70, 97, 109, 105, 108, 121]⟩ = false ∧ It.eqB ⟨#[67, 104, 111, 105, 99, 101, 115]⟩ ⟨#[70, 97, 109, 105, 108, 121]⟩ = false ∧ It.eqB ⟨#[86, 97, 108, 117, 101]⟩ ⟨#[70, 97, 109, 105, 108, 121]⟩ = false ∧ It.eqB ⟨#[84, 111, 108]⟩ ⟨#[70, 97, 109, 105, 108, 121]⟩ = false ∧ It.eqB ⟨#[84, 101, 120, 116, 115]⟩ ⟨#[70, 97, 109, 105, 108, 121]⟩ = false ∧ It.eqB ⟨#[80, 111, 105, 110, 116, 115]⟩ ⟨#[70, 97, 109, 105, 108, 121]⟩ = false ∧ It.eqB ⟨#[67, 111, 110, 116, 101, 110, 116]⟩ ⟨#[70, 97, 109, 105, 108, 121]⟩ = false ∧ It.eqB ⟨#[70, 97, 109, 105, 108, 121]⟩ ⟨#[70, 97, 109, 105, 108, 121]⟩ = true ∧ It.eqB ⟨#[83, 101, 116]⟩ ⟨#[70, 97, 109, 105, 108, 121]⟩ = false ∧ It.eqB ⟨#[87, 111, 114, 100, 115]⟩ ⟨#[70, 97, 109, 105, 108, 121]⟩ = false ∧ It.eqB ⟨#[83, 101, 99, 111, 110, 100, 115]⟩ ⟨#[70, 97, 109, 105, 108, 121]⟩ = false ∧ It.eqB ⟨#[65, 115, 115, 101, 116, 115]⟩ ⟨#[70, 97, 109, 105, 108, 121]⟩ = false ∧ It.eqB ⟨#[82, 117, 98, 114, 105, 99]⟩ ⟨#[70, 97, 109, 105, 108, 121]⟩ = false := by decide
  obtain ⟨m0, m1, m2, m3, m4, m5, m6, m7, m8, m9, m10, m11, m12, m13, m14, m15, m16⟩ := hm
  simp only [It.pairs, List.any_cons, List.any_nil, m0, m1, m2, m3, m4, m5, m6, m7, m8, m9, m10, m11, m12, m13, m14, m15, m16, Bool.and_true, Bool.and_false, Bool.or_false, Bool.false_or, bne]
theorem has_nm12 (a b : It.Item) : It.hasN (It.diff a b) ⟨#[83, 101, 116]⟩ = !(a.set_ == b.set_) := by
  unfold It.hasN It.diff
  rw [It.foldN_any]
  have hm : It.eqB ⟨#[73, 100]⟩ ⟨#[83, 101, 116]⟩ = false ∧ It.eqB ⟨#[86, 101, 114, 115, 105, 111, 110]⟩ ⟨#[83, 101, 116]⟩ = false ∧ It.eqB ⟨#[75, 105, 110, 100]⟩ ⟨#[83, 101, 116]⟩ = false ∧ It.eqB ⟨#[83, 116, 101, 109]⟩ ⟨#[83, 101, 116]⟩ = false ∧ It.eqB ⟨#[79, 112, 116, 105, 111, 110, 115]⟩ ⟨#[83, 101, 116]⟩ = false ∧ It.eqB ⟨#[67, 104, 111, 105, 99, 101, 115]⟩ ⟨#[83, 101, 116]⟩ = false ∧ It.eqB ⟨#[86, 97, 108, 117, 101]⟩ ⟨#[83, 101, 116]⟩ = false ∧ It.eqB ⟨#[84, 111, 108]⟩ ⟨#[83, 101, 116]⟩ = false ∧ It.eqB ⟨#[84, 101, 120, 116, 115]⟩ ⟨#[83, 101, 116]⟩ = false ∧ It.eqB ⟨#[80, 111, 105, 110, 116, 115]⟩ ⟨#[83, 101, 116]⟩ = false ∧ It.eqB ⟨#[67, 111, 110, 116, 101, 110, 116]⟩ ⟨#[83, 101, 116]⟩ = false ∧ It.eqB ⟨#[70, 97, 109, 105, 108, 121]⟩ ⟨#[83, 101, 116]⟩ = false ∧ It.eqB ⟨#[83, 101, 116]⟩ ⟨#[83, 101, 116]⟩ = true ∧ It.eqB ⟨#[87, 111, 114, 100, 115]⟩ ⟨#[83, 101, 116]⟩ = false ∧ It.eqB ⟨#[83, 101, 99, 111, 110, 100, 115]⟩ ⟨#[83, 101, 116]⟩ = false ∧ It.eqB ⟨#[65, 115, 115, 101, 116, 115]⟩ ⟨#[83, 101, 116]⟩ = false ∧ It.eqB ⟨#[82, 117, 98, 114, 105, 99]⟩ ⟨#[83, 101, 116]⟩ = false := by decide
  obtain ⟨m0, m1, m2, m3, m4, m5, m6, m7, m8, m9, m10, m11, m12, m13, m14, m15, m16⟩ := hm
  simp only [It.pairs, List.any_cons, List.any_nil, m0, m1, m2, m3, m4, m5, m6, m7, m8, m9, m10, m11, m12, m13, m14, m15, m16, Bool.and_true, Bool.and_false, Bool.or_false, Bool.false_or, bne]
theorem has_nm13 (a b : It.Item) : It.hasN (It.diff a b) ⟨#[87, 111, 114, 100, 115]⟩ = !(a.wrd == b.wrd) := by
  unfold It.hasN It.diff
  rw [It.foldN_any]
  have hm : It.eqB ⟨#[73, 100]⟩ ⟨#[87, 111, 114, 100, 115]⟩ = false ∧ It.eqB ⟨#[86, 101, 114, 115, 105, 111, 110]⟩ ⟨#[87, 111, 114, 100, 115]⟩ = false ∧ It.eqB ⟨#[75, 105, 110, 100]⟩ ⟨#[87, 111, 114, 100, 115]⟩ = false ∧ It.eqB ⟨#[83, 116, 101, 109]⟩ ⟨#[87, 111, 114, 100, 115]⟩ = false ∧ It.eqB ⟨#[79, 112, 116, 105, 111, 110, 115]⟩ ⟨#[87, 111, 114, 100, 115]⟩ = false ∧ It.eqB ⟨#[67, 104, 111, 105, 99, 101, 115]⟩ ⟨#[87, 111, 114, 100, 115]⟩ = false ∧ It.eqB ⟨#[86, 97, 108, 117, 101]⟩ ⟨#[87, 111, 114, 100, 115]⟩ = false ∧ It.eqB ⟨#[84, 111, 108]⟩ ⟨#[87, 111, 114, 100, 115]⟩ = false ∧ It.eqB ⟨#[84, 101, 120, 116, 115]⟩ ⟨#[87, 111, 114, 100, 115]⟩ = false ∧ It.eqB ⟨#[80, 111, 105, 110, 116, 115]⟩ ⟨#[87, 111, 114, 100, 115]⟩ = false ∧ It.eqB ⟨#[67, 111, 110, 116, 101, 110, 116]⟩ ⟨#[87, 111, 114, 100, 115]⟩ = false ∧ It.eqB ⟨#[70, 97, 109, 105, 108, 121]⟩ ⟨#[87, 111, 114, 100, 115]⟩ = false ∧ It.eqB ⟨#[83, 101, 116]⟩ ⟨#[87, 111, 114, 100, 115]⟩ = false ∧ It.eqB ⟨#[87, 111, 114, 100, 115]⟩ ⟨#[87, 111, 114, 100, 115]⟩ = true ∧ It.eqB ⟨#[83, 101, 99, 111, 110, 100, 115]⟩ ⟨#[87, 111, 114, 100, 115]⟩ = false ∧ It.eqB ⟨#[65, 115, 115, 101, 116, 115]⟩ ⟨#[87, 111, 114, 100, 115]⟩ = false ∧ It.eqB ⟨#[82, 117, 98, 114, 105, 99]⟩ ⟨#[87, 111, 114, 100, 115]⟩ = false := by decide
  obtain ⟨m0, m1, m2, m3, m4, m5, m6, m7, m8, m9, m10, m11, m12, m13, m14, m15, m16⟩ := hm
  simp only [It.pairs, List.any_cons, List.any_nil, m0, m1, m2, m3, m4, m5, m6, m7, m8, m9, m10, m11, m12, m13, m14, m15, m16, Bool.and_true, Bool.and_false, Bool.or_false, Bool.false_or, bne]
theorem has_nm14 (a b : It.Item) : It.hasN (It.diff a b) ⟨#[83, 101, 99, 111, 110, 100, 115]⟩ = !(a.sec == b.sec) := by
  unfold It.hasN It.diff
  rw [It.foldN_any]
  have hm : It.eqB ⟨#[73, 100]⟩ ⟨#[83, 101, 99, 111, 110, 100, 115]⟩ = false ∧ It.eqB ⟨#[86, 101, 114, 115, 105, 111, 110]⟩ ⟨#[83, 101, 99, 111, 110, 100, 115]⟩ = false ∧ It.eqB ⟨#[75, 105, 110, 100]⟩ ⟨#[83, 101, 99, 111, 110, 100, 115]⟩ = false ∧ It.eqB ⟨#[83, 116, 101, 109]⟩ ⟨#[83, 101, 99, 111, 110, 100, 115]⟩ = false ∧ It.eqB ⟨#[79, 112, 116, 105, 111, 110, 115]⟩ ⟨#[83, 101, 99, 111, 110, 100, 115]⟩ = false ∧ It.eqB ⟨#[67, 104, 111, 105, 99, 101, 115]⟩ ⟨#[83, 101, 99, 111, 110, 100, 115]⟩ = false ∧ It.eqB ⟨#[86, 97, 108, 117, 101]⟩ ⟨#[83, 101, 99, 111, 110, 100, 115]⟩ = false ∧ It.eqB ⟨#[84, 111, 108]⟩ ⟨#[83, 101, 99, 111, 110, 100, 115]⟩ = false ∧ It.eqB ⟨#[84, 101, 120, 116, 115]⟩ ⟨#[83, 101, 99, 111, 110, 100, 115]⟩ = false ∧ It.eqB ⟨#[80, 111, 105, 110, 116, 115]⟩ ⟨#[83, 101, 99, 111, 110, 100, 115]⟩ = false ∧ It.eqB ⟨#[67, 111, 110, 116, 101, 110, 116]⟩ ⟨#[83, 101, 99, 111, 110, 100, 115]⟩ = false ∧ It.eqB ⟨#[70, 97, 109, 105, 108, 121]⟩ ⟨#[83, 101, 99, 111, 110, 100, 115]⟩ = false ∧ It.eqB ⟨#[83, 101, 116]⟩ ⟨#[83, 101, 99, 111, 110, 100, 115]⟩ = false ∧ It.eqB ⟨#[87, 111, 114, 100, 115]⟩ ⟨#[83, 101, 99, 111, 110, 100, 115]⟩ = false ∧ It.eqB ⟨#[83, 101, 99, 111, 110, 100, 115]⟩ ⟨#[83, 101, 99, 111, 110, 100, 115]⟩ = true ∧ It.eqB ⟨#[65, 115, 115, 101, 116, 115]⟩ ⟨#[83, 101, 99, 111, 110, 100, 115]⟩ = false ∧ It.eqB ⟨#[82, 117, 98, 114, 105, 99]⟩ ⟨#[83, 101, 99, 111, 110, 100, 115]⟩ = false := by decide
  obtain ⟨m0, m1, m2, m3, m4, m5, m6, m7, m8, m9, m10, m11, m12, m13, m14, m15, m16⟩ := hm
  simp only [It.pairs, List.any_cons, List.any_nil, m0, m1, m2, m3, m4, m5, m6, m7, m8, m9, m10, m11, m12, m13, m14, m15, m16, Bool.and_true, Bool.and_false, Bool.or_false, Bool.false_or, bne]
theorem has_nm15 (a b : It.Item) : It.hasN (It.diff a b) ⟨#[65, 115, 115, 101, 116, 115]⟩ = !(It.eqI a.assets b.assets) := by
  unfold It.hasN It.diff
  rw [It.foldN_any]
  have hm : It.eqB ⟨#[73, 100]⟩ ⟨#[65, 115, 115, 101, 116, 115]⟩ = false ∧ It.eqB ⟨#[86, 101, 114, 115, 105, 111, 110]⟩ ⟨#[65, 115, 115, 101, 116, 115]⟩ = false ∧ It.eqB ⟨#[75, 105, 110, 100]⟩ ⟨#[65, 115, 115, 101, 116, 115]⟩ = false ∧ It.eqB ⟨#[83, 116, 101, 109]⟩ ⟨#[65, 115, 115, 101, 116, 115]⟩ = false ∧ It.eqB ⟨#[79, 112, 116, 105, 111, 110, 115]⟩ ⟨#[65, 115, 115, 101, 116, 115]⟩ = false ∧ It.eqB ⟨#[67, 104, 111, 105, 99, 101, 115]⟩ ⟨#[65, 115, 115, 101, 116, 115]⟩ = false ∧ It.eqB ⟨#[86, 97, 108, 117, 101]⟩ ⟨#[65, 115, 115, 101, 116, 115]⟩ = false ∧ It.eqB ⟨#[84, 111, 108]⟩ ⟨#[65, 115, 115, 101, 116, 115]⟩ = false ∧ It.eqB ⟨#[84, 101, 120, 116, 115]⟩ ⟨#[65, 115, 115, 101, 116, 115]⟩ = false ∧ It.eqB ⟨#[80, 111, 105, 110, 116, 115]⟩ ⟨#[65, 115, 115, 101, 116, 115]⟩ = false ∧ It.eqB ⟨#[67, 111, 110, 116, 101, 110, 116]⟩ ⟨#[65, 115, 115, 101, 116, 115]⟩ = false ∧ It.eqB ⟨#[70, 97, 109, 105, 108, 121]⟩ ⟨#[65, 115, 115, 101, 116, 115]⟩ = false ∧ It.eqB ⟨#[83, 101, 116]⟩ ⟨#[65, 115, 115, 101, 116, 115]⟩ = false ∧ It.eqB ⟨#[87, 111, 114, 100, 115]⟩ ⟨#[65, 115, 115, 101, 116, 115]⟩ = false ∧ It.eqB ⟨#[83, 101, 99, 111, 110, 100, 115]⟩ ⟨#[65, 115, 115, 101, 116, 115]⟩ = false ∧ It.eqB ⟨#[65, 115, 115, 101, 116, 115]⟩ ⟨#[65, 115, 115, 101, 116, 115]⟩ = true ∧ It.eqB ⟨#[82, 117, 98, 114, 105, 99]⟩ ⟨#[65, 115, 115, 101, 116, 115]⟩ = false := by decide
  obtain ⟨m0, m1, m2, m3, m4, m5, m6, m7, m8, m9, m10, m11, m12, m13, m14, m15, m16⟩ := hm
  simp only [It.pairs, List.any_cons, List.any_nil, m0, m1, m2, m3, m4, m5, m6, m7, m8, m9, m10, m11, m12, m13, m14, m15, m16, Bool.and_true, Bool.and_false, Bool.or_false, Bool.false_or]
theorem has_nm16 (a b : It.Item) : It.hasN (It.diff a b) ⟨#[82, 117, 98, 114, 105, 99]⟩ = !(a.rub == b.rub) := by
  unfold It.hasN It.diff
  rw [It.foldN_any]
  have hm : It.eqB ⟨#[73, 100]⟩ ⟨#[82, 117, 98, 114, 105, 99]⟩ = false ∧ It.eqB ⟨#[86, 101, 114, 115, 105, 111, 110]⟩ ⟨#[82, 117, 98, 114, 105, 99]⟩ = false ∧ It.eqB ⟨#[75, 105, 110, 100]⟩ ⟨#[82, 117, 98, 114, 105, 99]⟩ = false ∧ It.eqB ⟨#[83, 116, 101, 109]⟩ ⟨#[82, 117, 98, 114, 105, 99]⟩ = false ∧ It.eqB ⟨#[79, 112, 116, 105, 111, 110, 115]⟩ ⟨#[82, 117, 98, 114, 105, 99]⟩ = false ∧ It.eqB ⟨#[67, 104, 111, 105, 99, 101, 115]⟩ ⟨#[82, 117, 98, 114, 105, 99]⟩ = false ∧ It.eqB ⟨#[86, 97, 108, 117, 101]⟩ ⟨#[82, 117, 98, 114, 105, 99]⟩ = false ∧ It.eqB ⟨#[84, 111, 108]⟩ ⟨#[82, 117, 98, 114, 105, 99]⟩ = false ∧ It.eqB ⟨#[84, 101, 120, 116, 115]⟩ ⟨#[82, 117, 98, 114, 105, 99]⟩ = false ∧ It.eqB ⟨#[80, 111, 105, 110, 116, 115]⟩ ⟨#[82, 117, 98, 114, 105, 99]⟩ = false ∧ It.eqB ⟨#[67, 111, 110, 116, 101, 110, 116]⟩ ⟨#[82, 117, 98, 114, 105, 99]⟩ = false ∧ It.eqB ⟨#[70, 97, 109, 105, 108, 121]⟩ ⟨#[82, 117, 98, 114, 105, 99]⟩ = false ∧ It.eqB ⟨#[83, 101, 116]⟩ ⟨#[82, 117, 98, 114, 105, 99]⟩ = false ∧ It.eqB ⟨#[87, 111, 114, 100, 115]⟩ ⟨#[82, 117, 98, 114, 105, 99]⟩ = false ∧ It.eqB ⟨#[83, 101, 99, 111, 110, 100, 115]⟩ ⟨#[82, 117, 98, 114, 105, 99]⟩ = false ∧ It.eqB ⟨#[65, 115, 115, 101, 116, 115]⟩ ⟨#[82, 117, 98, 114, 105, 99]⟩ = false ∧ It.eqB ⟨#[82, 117, 98, 114, 105, 99]⟩ ⟨#[82, 117, 98, 114, 105, 99]⟩ = true := by decide
  obtain ⟨m0, m1, m2, m3, m4, m5, m6, m7, m8, m9, m10, m11, m12, m13, m14, m15, m16⟩ := hm
  simp only [It.pairs, List.any_cons, List.any_nil, m0, m1, m2, m3, m4, m5, m6, m7, m8, m9, m10, m11, m12, m13, m14, m15, m16, Bool.and_true, Bool.and_false, Bool.or_false, Bool.false_or, bne]
/-- Two trees differ at a field as the items do. -/
theorem fld_eq (a b : It.Item) {k : Nat} (hk : k < 17) : ∃ q s x y, (It.sames a b)[k]? = some q ∧ fldNames[k]? = some s ∧ (It.pairs a b)[k]? = some (!q, s) ∧ (flds a)[k]? = some x ∧ (flds b)[k]? = some y ∧ ndE x y = q ∧ It.hasN (It.diff a b) s = !q := by
  match k, hk with
  | 0, _ => exact ⟨_, _, _, _, rfl, rfl, rfl, rfl, rfl, by rw [ndE_of (p := a.id = b.id) ⟨fun h => (by injection h), fun h => by rw [h]⟩, Bool.eq_iff_iff, decide_eq_true_iff, beq_iff_eq], has_nm0 a b⟩
  | 1, _ => exact ⟨_, _, _, _, rfl, rfl, rfl, rfl, rfl, by rw [ndE_of (p := a.ver = b.ver) ⟨fun h => (by injection h), fun h => by rw [h]⟩, Bool.eq_iff_iff, decide_eq_true_iff, beq_iff_eq], has_nm1 a b⟩
  | 2, _ => exact ⟨_, _, _, _, rfl, rfl, rfl, rfl, rfl, by rw [ndE_of (p := a.kind = b.kind) ⟨fun h => (by injection h), fun h => by rw [h]⟩, Bool.eq_iff_iff, decide_eq_true_iff, beq_iff_eq], has_nm2 a b⟩
  | 3, _ => exact ⟨_, _, _, _, rfl, rfl, rfl, rfl, rfl, ndE_of (p := a.stem = b.stem) ⟨fun h => (by injection h), fun h => by rw [h]⟩, has_nm3 a b⟩
  | 4, _ => exact ⟨_, _, _, _, rfl, rfl, rfl, rfl, rfl, ndE_of (p := a.opts = b.opts) ⟨fun h => leafS_inj (by injection h), fun h => by rw [h]⟩, has_nm4 a b⟩
  | 5, _ => exact ⟨_, _, _, _, rfl, rfl, rfl, rfl, rfl, ndE_of (p := a.chs = b.chs) ⟨fun h => leafI_inj (by injection h), fun h => by rw [h]⟩, has_nm5 a b⟩
  | 6, _ => exact ⟨_, _, _, _, rfl, rfl, rfl, rfl, rfl, by rw [ndE_of (p := a.value = b.value) ⟨fun h => (by injection h), fun h => by rw [h]⟩, Bool.eq_iff_iff, decide_eq_true_iff, beq_iff_eq], has_nm6 a b⟩
  | 7, _ => exact ⟨_, _, _, _, rfl, rfl, rfl, rfl, rfl, by rw [ndE_of (p := a.tol = b.tol) ⟨fun h => (by injection h), fun h => by rw [h]⟩, Bool.eq_iff_iff, decide_eq_true_iff, beq_iff_eq], has_nm7 a b⟩
  | 8, _ => exact ⟨_, _, _, _, rfl, rfl, rfl, rfl, rfl, ndE_of (p := a.texts = b.texts) ⟨fun h => leafS_inj (by injection h), fun h => by rw [h]⟩, has_nm8 a b⟩
  | 9, _ => exact ⟨_, _, _, _, rfl, rfl, rfl, rfl, rfl, by rw [ndE_of (p := a.pts = b.pts) ⟨fun h => (by injection h), fun h => by rw [h]⟩, Bool.eq_iff_iff, decide_eq_true_iff, beq_iff_eq], has_nm9 a b⟩
  | 10, _ => exact ⟨_, _, _, _, rfl, rfl, rfl, rfl, rfl, ndE_of (p := a.cont = b.cont) ⟨fun h => (by injection h), fun h => by rw [h]⟩, has_nm10 a b⟩
  | 11, _ => exact ⟨_, _, _, _, rfl, rfl, rfl, rfl, rfl, by rw [ndE_of (p := a.fam = b.fam) ⟨fun h => (by injection h), fun h => by rw [h]⟩, Bool.eq_iff_iff, decide_eq_true_iff, beq_iff_eq], has_nm11 a b⟩
  | 12, _ => exact ⟨_, _, _, _, rfl, rfl, rfl, rfl, rfl, by rw [ndE_of (p := a.set_ = b.set_) ⟨fun h => (by injection h), fun h => by rw [h]⟩, Bool.eq_iff_iff, decide_eq_true_iff, beq_iff_eq], has_nm12 a b⟩
  | 13, _ => exact ⟨_, _, _, _, rfl, rfl, rfl, rfl, rfl, by rw [ndE_of (p := a.wrd = b.wrd) ⟨fun h => (by injection h), fun h => by rw [h]⟩, Bool.eq_iff_iff, decide_eq_true_iff, beq_iff_eq], has_nm13 a b⟩
  | 14, _ => exact ⟨_, _, _, _, rfl, rfl, rfl, rfl, rfl, by rw [ndE_of (p := a.sec = b.sec) ⟨fun h => (by injection h), fun h => by rw [h]⟩, Bool.eq_iff_iff, decide_eq_true_iff, beq_iff_eq], has_nm14 a b⟩
  | 15, _ => exact ⟨_, _, _, _, rfl, rfl, rfl, rfl, rfl, ndE_of (p := a.assets = b.assets) ⟨fun h => leafI_inj (by injection h), fun h => by rw [h]⟩, has_nm15 a b⟩
  | 16, _ => exact ⟨_, _, _, _, rfl, rfl, rfl, rfl, rfl, by rw [ndE_of (p := a.rub = b.rub) ⟨fun h => (by injection h), fun h => by rw [h]⟩, Bool.eq_iff_iff, decide_eq_true_iff, beq_iff_eq], has_nm16 a b⟩
  | i + 17, hk => exact absurd hk (by omega)
theorem tree_eq (a b : It.Item) : ndE (tree a) (tree b) = decide (It.diff a b = []) := by
  refine ndE_of ⟨fun h => ?_, fun h => ?_⟩
  · have h2 : flds a = flds b := by injection h
    have h3 := congrArg itemOf h2
    rw [itemOf_flds, itemOf_flds] at h3
    rw [h3]; exact It.diff_self b
  · have h2 : flds a = flds b := by
      apply List.ext_getElem?
      intro k
      by_cases hk : k < 17
      · obtain ⟨q, s, x, y, -, -, -, h4, h5, h6, h7⟩ := fld_eq a b hk
        rw [h] at h7
        have hq : q = true := by cases q with
          | true => rfl
          | false => exact absurd h7 (by simp [It.hasN])
        rw [hq] at h6
        rw [h4, h5, ndE_iff.1 h6]
      · rw [List.getElem?_eq_none (by show 17 ≤ k; omega), List.getElem?_eq_none (by show 17 ≤ k; omega)]
    unfold tree
    rw [h2]
theorem cnt_next {a b : It.Item} {k : Nat} {d : Bool} {s : ByteArray} (h : (It.pairs a b)[k]? = some (d, s)) : (It.foldN ((It.pairs a b).take (k + 1))).length = (It.foldN ((It.pairs a b).take k)).length + (if d then 1 else 0) := by
  rw [It.foldN_snoc h]
  cases d with
  | false => simp [It.addL_no]
  | true => simp [It.addL_yes]
/-- What Encode returns, as one array. -/
theorem enc_pack {it : It.Item} {er : Int} {lo : Nat} {e : Ending} {w' : World} (h : EncPost it er lo e w') : ∃ CX : Array Value, e = .returned (.tuple #[.agg CX, .int .i64 er]) ∧ CX.size = 5 ∧ CX.all (·.oneCell') = true ∧
    (er = 0 → ∃ b off c, nda (tree it) (some ⟨b, off, none⟩, c) = .agg CX ∧ CX[4]? = some (.slice (some ⟨b, off, none⟩) 17 c) ∧ KidsAt 1000 0 2 w' (some ⟨b, off, none⟩, c) (flds it)) := by
  by_cases h0 : er = 0
  · obtain ⟨⟨A, c⟩, he, hk⟩ := h.1 h0
    obtain ⟨b, off, M0, hA, -⟩ := hk.at_ (i := 0) (x := .mk 1 1 it.id ⟨#[]⟩ []) rfl
    dsimp only at hA
    subst hA
    subst h0
    exact ⟨_, he, rfl, by simp [Value.oneCell'], fun _ => ⟨b, off, c, rfl, rfl, hk.lower (Nat.zero_le _)⟩⟩
  · exact ⟨_, h.2 h0, rfl, by simp [Value.oneCell'], fun g => absurd g h0⟩
theorem exec_load_mid {P : Program} {ev : Operand → Value} {o : Oper} {w : World} (ty : TypeId) (x : Operand) (ho : o.op = .load ty x) (b off : Nat) (hx : ev x = .pointer (some ⟨b, off, none⟩)) (cs : List Value) (td : TypeDesc) (hc : ∀ j v, cs[j]? = some v → w.cell? ⟨b, off + j, none⟩ = some v)
    (hu : P.underlying ty = some td) (hd : td.isRow = true) (hi : (P.info? ty).map (·.size) = some cs.length) : (execOp ev o).run P w = .ok (.value (.agg cs.toArray)) w := by
  unfold execOp
  simp only [ho, hx, Sem.run_bind, run_loadAt_mid w b off ty cs td hc hu hd hi, Sem.run_pure, Result.andThen_ok]
theorem infoNd5 (x : Nd) (M : Option Addr × Nat) : (Tryd.prog.info? 36).map (·.size) = some (ndc x M).length := by
  show _ = some 5
  kernel_rfl
theorem KidsAt.range {B lo d : Nat} {w : World} {L : Option Addr × Nat} {ks : List Nd} (h : KidsAt B lo (d + 1) w L ks) {i : Nat} {x : Nd} (hi : ks[i]? = some x) :
    ∃ (b off : Nat) (M : Option Addr × Nat), L.1 = some ⟨b, off, none⟩ ∧ b < w.heap.size ∧ (∀ j v, (ndc x M)[j]? = some v → w.cell? ⟨b, off + i * 5 + j, none⟩ = some v) ∧ KidsAt B lo d w M x.kids := by
  obtain ⟨_, _, _, h⟩ := h
  rcases h with h | ⟨b, off, Ls, e, hl, hb, hL, hc⟩
  · subst h; simp at hi
  · have hlt : i < ks.length := by
      rcases Nat.lt_or_ge i ks.length with g | g
      · exact g
      · rw [List.getElem?_eq_none g] at hi; cases hi
    have hM : Ls[i]? = some (Ls[i]'(by omega)) := List.getElem?_eq_getElem (by omega)
    obtain ⟨h1, h2⟩ := hc i x _ hi hM
    exact ⟨b, off, _, e, hb, fun j v hv => by rw [Nat.add_assoc]; exact h1 j v hv, h2⟩
/-- What lies where while the law runs. -/
structure CoS (w W : World) (CA CB CX CY : Array Value) (g5 g7 : Nat) (a b : It.Item) (La Lb : It.Loc) (ea eb : Int) : Prop where
  x : Ext w W
  b1 : W.heap[w.heap.size]? = some (.cells CA 25 (0, 0))
  b2 : W.heap[w.heap.size + 1]? = some (.cells CB 25 (0, 0))
  b5 : W.heap[g5]? = some (.cells CX 36 (0, 0))
  b7 : W.heap[g7]? = some (.cells CY 36 (0, 0))
  i1 : It.In W a La
  i2 : It.In W b Lb
  kx : ea = 0 → ∃ b off c, nda (tree a) (some ⟨b, off, none⟩, c) = .agg CX ∧ CX[4]? = some (.slice (some ⟨b, off, none⟩) 17 c) ∧ KidsAt 1000 0 2 W (some ⟨b, off, none⟩, c) (flds a)
  ky : eb = 0 → ∃ b' off c, nda (tree b) (some ⟨b', off, none⟩, c) = .agg CY ∧ CY[4]? = some (.slice (some ⟨b', off, none⟩) 17 c) ∧ KidsAt 1000 0 2 W (some ⟨b', off, none⟩, c) (flds b)
theorem CoS.ext {w W W' : World} {CA CB CX CY : Array Value} {g5 g7 : Nat} {a b : It.Item} {La Lb : It.Loc} {ea eb : Int} (h : CoS w W CA CB CX CY g5 g7 a b La Lb ea eb) (he : Ext W W') : CoS w W' CA CB CX CY g5 g7 a b La Lb ea eb :=
  ⟨h.x.trans he, he.blockAt h.b1, he.blockAt h.b2, he.blockAt h.b5, he.blockAt h.b7, h.i1.ext he, h.i2.ext he,
    fun g => by obtain ⟨b, off, c, h1, h2, h3⟩ := h.kx g; exact ⟨b, off, c, h1, h2, h3.ext he⟩, fun g => by obtain ⟨b, off, c, h1, h2, h3⟩ := h.ky g; exact ⟨b, off, c, h1, h2, h3.ext he⟩⟩
theorem fields_law (w : World) : Calls Tryd.prog 15 #[] w fun e w' => (∃ (A : Option Addr) (c : Nat), e = .returned (.slice A 17 c) ∧ SlS w' A fldNames) ∧ Ext w w' := by
  go_enter Tryd.func15, Tryd.ntmps15
  go_wp2
  go_ret
  exact ⟨⟨_, _, rfl, Sl.new w [.string ⟨#[73, 100]⟩, .string ⟨#[86, 101, 114, 115, 105, 111, 110]⟩, .string ⟨#[75, 105, 110, 100]⟩, .string ⟨#[83, 116, 101, 109]⟩, .string ⟨#[79, 112, 116, 105, 111, 110, 115]⟩, .string ⟨#[67, 104, 111, 105, 99, 101, 115]⟩, .string ⟨#[86, 97, 108, 117, 101]⟩, .string ⟨#[84, 111, 108]⟩, .string ⟨#[84, 101, 120, 116, 115]⟩, .string ⟨#[80, 111, 105, 110, 116, 115]⟩, .string ⟨#[67, 111, 110, 116, 101, 110, 116]⟩, .string ⟨#[70, 97, 109, 105, 108, 121]⟩, .string ⟨#[83, 101, 116]⟩, .string ⟨#[87, 111, 114, 100, 115]⟩, .string ⟨#[83, 101, 99, 111, 110, 100, 115]⟩, .string ⟨#[65, 115, 115, 101, 116, 115]⟩, .string ⟨#[82, 117, 98, 114, 105, 99]⟩] 9⟩, (Ext.refl _).alloc _⟩
theorem infoNode' {CS : Array Value} (h : CS.size = 5) : (Tryd.prog.info? 36).map (·.size) = some CS.size := by rw [h]; kernel_rfl

def coV (g g' k b off c b' off' c' : Nat) (x y : Nd) (M M' : Option Addr × Nat) (nq : Bool) : List Value := [.pointer (some ⟨g, 4, none⟩), .slice (some ⟨b, off, none⟩) 17 c, .int .i64 (k : Int), .pointer (some ⟨b, off + k * 5, none⟩), nda x M, .pointer (some ⟨g', 4, none⟩), .slice (some ⟨b', off', none⟩) 17 c', .int .i64 (k : Int), .pointer (some ⟨b', off' + k * 5, none⟩), nda y M', .bool (!nq), .bool nq, .bool nq]
def coR (g g' k b off c b' off' c' : Nat) (x y : Nd) (M M' : Option Addr × Nat) (nq : Bool) (j : Nat) (u : Option Value) (_ : World) : Prop := u = some ((coV g g' k b off c b' off' c' x y M M' nq).getD j undef)
theorem coR_ext (g g' k b off c b' off' c' : Nat) (x y : Nd) (M M' : Option Addr × Nat) (nq : Bool) (j : Nat) (u : Option Value) (w w' : World) (_ : Ext w w') (h : coR g g' k b off c b' off' c' x y M M' nq j u w) : coR g g' k b off c b' off' c' x y M M' nq j u w' := h
def coD : List Nat := [78, 79, 80, 81, 82, 83, 84, 85, 86, 87, 88, 89, 15]
def coE (g g' k : Nat) (t : Array Value) : Prop := t.getD 5 undef = .pointer (some ⟨g, 0, none⟩) ∧ t.getD 7 undef = .pointer (some ⟨g', 0, none⟩) ∧ t.getD 13 undef = .int .i64 (k : Int) ∧ t.size = 115
set_option maxRecDepth 100000 in
set_option maxHeartbeats 25600000 in
theorem itemCodec_walk (a b : It.Item) (La Lb : It.Loc) (w : World) (ha : It.In w a La) (hb : It.In w b Lb) (hg : Gm w) (hf : Fld w) :
    Calls Tryd.prog 4 #[It.agg a La, It.agg b Lb] w fun e w' => e = .returned (.bool true) ∧ Ext w w' := by
  obtain ⟨CA, hca, hna, -, -⟩ := It.packed a La
  obtain ⟨CB, hcb, hnb, -, -⟩ := It.packed b Lb
  obtain ⟨ea, hea⟩ : ∃ e, It.vld a = e := ⟨_, rfl⟩
  obtain ⟨eb, heb⟩ : ∃ e, It.vld b = e := ⟨_, rfl⟩
  have hl17 := It.diff_le a b
  have EA := Lib.hid (encode_any a La)
  have EB := Lib.hid (encode_any b Lb)
  have VA := Lib.hid (valid_to a La hea)
  have VB := Lib.hid (valid_to b Lb heb)
  have D12 := Lib.hid (diff_any a b La Lb)
  have SM := Lib.hid (fun L => same_to a a La L (v := true) (decide_eq_true (It.diff_self a)))
  rw [hea] at EA
  rw [heb] at EB
  rw [hca] at EA VA SM
  rw [hcb] at EB VB
  rw [hca, hcb] at D12 ⊢
  have HA := Lib.hid ha
  have HB := Lib.hid hb
  have HG : Hid (∀ w', Ext w w' → Gm w') := Lib.hid (fun w' he => hg.ext he)
  have HF : Hid (∀ w', Ext w w' → Fld w') := Lib.hid (fun w' he => hf.ext he)
  have IA := Lib.hid (infoItem hna)
  have IB := Lib.hid (infoItem hnb)
  have HEA := Lib.hid hea
  have HEB := Lib.hid heb
  have HL := Lib.hid hl17
  have EN := Lib.hid (enters_of Tryd.func16 (by kernel_rfl) rfl)
  clear ha hb hg hf hca hcb hna hnb hea heb hl17
  go_enter Tryd.func4, Tryd.ntmps4
  go_wp2_with (refine wpList_load_row rfl _ _ rfl w.heap.size rfl _ CA _ _ (heap_two_fst _ _ _) Tryd.underlying25 rfl IA.out ?_)
  have X0 : Ext w ((w.alloc (.cells CA 25)).alloc (.cells CB 25)) := ((Ext.refl _).alloc _).alloc _
  with_reducible refine (EA.out _ (HA.out.ext X0) (fun w' he => HG.out _ (X0.trans he))).mono ?_
  rintro e w1 ⟨hE, hb1⟩
  obtain ⟨CX, rfl, hxs, hxo, hxk⟩ := enc_pack hE
  obtain ⟨W1, hW1⟩ : ∃ W, ((w1.alloc (.cells #[.int .i64 0, .int .i64 0, .int .i64 0, .string ⟨#[]⟩, .slice none 0 0] 36)).setRow w1.heap.size CX) = W := ⟨_, rfl⟩
  have E1 : Ext w1 W1 := by rw [← hW1]; exact ((Ext.refl _).alloc _).setRow (Nat.le_refl _) _
  have B5 : Hid (W1.heap[w1.heap.size]? = some (.cells CX 36 (0, 0))) := Lib.hid (by rw [← hW1]; exact setRow_at (heap_alloc_new _ _))
  have B1 := Lib.hid ((hb1.trans E1).blockAt (heap_two_fst _ _ _))
  have B2 := Lib.hid ((hb1.trans E1).blockAt (heap_two_snd _ _ _))
  have X1 := Lib.hid (X0.trans (hb1.trans E1))
  have IX := Lib.hid (infoNode' hxs)
  have SX := Lib.hid hxs
  have OX := Lib.hid hxo
  have KX : Hid (ea = 0 → ∃ b off c, nda (tree a) (some ⟨b, off, none⟩, c) = .agg CX ∧ CX[4]? = some (.slice (some ⟨b, off, none⟩) 17 c) ∧ KidsAt 1000 0 2 W1 (some ⟨b, off, none⟩, c) (flds a)) := Lib.hid (fun g => by obtain ⟨b, off, c, h1, h2, h3⟩ := hxk g; exact ⟨b, off, c, h1, h2, h3.ext E1⟩)
  have HW1 := Lib.hid hW1
  clear hE hb1 hxs hxo hxk hW1 E1 X0 EA
  go_wp2_with (first
    | (refine wpList_store_row rfl _ _ _ rfl w1.heap.size CX rfl rfl _ #[.int .i64 0, .int .i64 0, .int .i64 0, .string ⟨#[]⟩, .slice none 0 0] (heap_alloc_new _ _) IX.out SX.out.symm OX.out ?_; rw [HW1.out])
    | refine wpList_load_row rfl _ _ rfl (w.heap.size + 1) rfl _ CB _ _ B2.out Tryd.underlying25 rfl IB.out ?_)
  clear HW1
  with_reducible refine (EB.out _ (HB.out.ext X1.out) (fun w' he => HG.out _ (X1.out.trans he))).mono ?_
  rintro e w2 ⟨hE, hb2⟩
  obtain ⟨CY, rfl, hys, hyo, hyk⟩ := enc_pack hE
  obtain ⟨W2, hW2⟩ : ∃ W, ((w2.alloc (.cells #[.int .i64 0, .int .i64 0, .int .i64 0, .string ⟨#[]⟩, .slice none 0 0] 36)).setRow w2.heap.size CY) = W := ⟨_, rfl⟩
  have E2 : Ext w2 W2 := by rw [← hW2]; exact ((Ext.refl _).alloc _).setRow (Nat.le_refl _) _
  have hB7 : W2.heap[w2.heap.size]? = some (.cells CY 36 (0, 0)) := by rw [← hW2]; exact setRow_at (heap_alloc_new _ _)
  have E12 := hb2.trans E2
  have HS : Hid (CoS w W2 CA CB CX CY w1.heap.size w2.heap.size a b La Lb ea eb) := Lib.hid ⟨X1.out.trans E12, E12.blockAt B1.out, E12.blockAt B2.out, E12.blockAt B5.out, hB7, HA.out.ext (X1.out.trans E12), HB.out.ext (X1.out.trans E12),
    fun g => by obtain ⟨b, off, c, h1, h2, h3⟩ := KX.out g; exact ⟨b, off, c, h1, h2, h3.ext E12⟩, fun g => by obtain ⟨b, off, c, h1, h2, h3⟩ := hyk g; exact ⟨b, off, c, h1, h2, h3.ext E2⟩⟩
  have IY := Lib.hid (infoNode' hys)
  have SY := Lib.hid hys
  have OY := Lib.hid hyo
  have HW2 := Lib.hid hW2
  clear hE hb2 hys hyo hyk hW2 E2 hB7 E12 B1 B2 B5 X1 KX EB HA HB
  go_wp2_with (first
    | refine wpList_load_row_w rfl _ _ rfl w.heap.size rfl _ CA _ _ HS.out.b1 Tryd.underlying25 rfl IA.out ?_
    | refine wpList_load_row_w rfl _ _ rfl (w.heap.size + 1) rfl _ CB _ _ HS.out.b2 Tryd.underlying25 rfl IB.out ?_
    | refine wpList_load_row_w rfl _ _ rfl w1.heap.size rfl _ CX _ _ HS.out.b5 Tryd.underlying36 rfl IX.out ?_
    | refine wpList_load_row_w rfl _ _ rfl w2.heap.size rfl _ CY _ _ HS.out.b7 Tryd.underlying36 rfl IY.out ?_
    | (refine wpList_store_row rfl _ _ _ rfl w2.heap.size CY rfl rfl _ #[.int .i64 0, .int .i64 0, .int .i64 0, .string ⟨#[]⟩, .slice none 0 0] (heap_alloc_new _ _) IY.out SY.out.symm OY.out ?_; rw [HW2.out]))
  clear HW2
  with_reducible refine (VA.out _ HS.out.i1 (HG.out _ HS.out.x)).mono ?_
  rintro e w3 ⟨rfl, hb⟩
  have HS := Lib.hid (HS.out.ext hb)
  clear hb
  go_wp2_with (first
    | refine wpList_load_row_w rfl _ _ rfl w.heap.size rfl _ CA _ _ HS.out.b1 Tryd.underlying25 rfl IA.out ?_
    | refine wpList_load_row_w rfl _ _ rfl (w.heap.size + 1) rfl _ CB _ _ HS.out.b2 Tryd.underlying25 rfl IB.out ?_
    | refine wpList_load_row_w rfl _ _ rfl w1.heap.size rfl _ CX _ _ HS.out.b5 Tryd.underlying36 rfl IX.out ?_
    | refine wpList_load_row_w rfl _ _ rfl w2.heap.size rfl _ CY _ _ HS.out.b7 Tryd.underlying36 rfl IY.out ?_)
  with_reducible refine (VB.out _ HS.out.i2 (HG.out _ HS.out.x)).mono ?_
  rintro e w4 ⟨rfl, hb⟩
  have HS := Lib.hid (HS.out.ext hb)
  clear hb VA VB
  by_cases hza : ea = 0
  case neg =>
    have ta : (ea != 0) = true := by rw [bne_iff_ne]; exact hza
    clear hza
    go_wp2_with fail
    with_reducible refine (awake_any _ (fun w' he => ⟨HG.out _ (HS.out.x.trans he), HF.out _ (HS.out.x.trans he)⟩)).mono ?_
    rintro e w9 ⟨rfl, hb⟩
    have HXX := Lib.hid (HS.out.x.trans hb)
    clear hb
    go_wp2
    go_ret
    exact ⟨rfl, HXX.out⟩
  have ta : (ea != 0) = false := by rw [hza]; rfl
  have HZA := Lib.hid hza
  clear hza
  by_cases hzb : eb = 0
  case neg =>
    have tb : (eb != 0) = true := by rw [bne_iff_ne]; exact hzb
    clear hzb
    go_wp2_with fail
    with_reducible refine (awake_any _ (fun w' he => ⟨HG.out _ (HS.out.x.trans he), HF.out _ (HS.out.x.trans he)⟩)).mono ?_
    rintro e w9 ⟨rfl, hb⟩
    have HXX := Lib.hid (HS.out.x.trans hb)
    clear hb
    go_wp2
    go_ret
    exact ⟨rfl, HXX.out⟩
  have tb : (eb != 0) = false := by rw [hzb]; rfl
  have HZB := Lib.hid hzb
  clear hzb
  obtain ⟨xb, xo, xc, hx1, hx2, -⟩ := HS.out.kx HZA.out
  obtain ⟨yb, yo, yc, hy1, hy2, -⟩ := HS.out.ky HZB.out
  have KXA : Hid (∀ W, CoS w W CA CB CX CY w1.heap.size w2.heap.size a b La Lb ea eb → KidsAt 1000 0 2 W (some ⟨xb, xo, none⟩, xc) (flds a)) := Lib.hid (fun W h => by
    obtain ⟨b', o', c', h1, h2, h3⟩ := h.kx HZA.out
    rw [hx2] at h2
    cases h2
    exact h3)
  have KYA : Hid (∀ W, CoS w W CA CB CX CY w1.heap.size w2.heap.size a b La Lb ea eb → KidsAt 1000 0 2 W (some ⟨yb, yo, none⟩, yc) (flds b)) := Lib.hid (fun W h => by
    obtain ⟨b', o', c', h1, h2, h3⟩ := h.ky HZB.out
    rw [hy2] at h2
    cases h2
    exact h3)
  have hva : It.vld a = 0 := HEA.out.trans HZA.out
  have hok : It.Ok a := HS.out.i1.ok
  have HDE := Lib.hid (fun W hk => decode_any 1000 0 (tree a) (some ⟨xb, xo, none⟩, xc) W hk (szOk_tree hok) (n64_tree hok) (few_tree hva))
  have HEQ := Lib.hid (fun W => equal_any 1000 (by decide) 2 (tree a) (tree b) (some ⟨xb, xo, none⟩, xc) (some ⟨yb, yo, none⟩, yc) W)
  have HDR : Hid (decErr (tree a) = 0) := Lib.hid (by unfold decErr; rw [if_pos (isTr_tree _)]; show It.vld (itemOf (flds a)) = 0; rw [itemOf_flds]; exact hva)
  rw [hx1] at HDE
  rw [hx1, hy1, tree_eq] at HEQ
  have HX2 := Lib.hid hx2
  have HY2 := Lib.hid hy2
  have HOK := Lib.hid hok
  clear hx1 hx2 hy1 hy2 hva hok
  go_wp2_with (first
    | refine wpList_load_row_w rfl _ _ rfl w.heap.size rfl _ CA _ _ HS.out.b1 Tryd.underlying25 rfl IA.out ?_
    | refine wpList_load_row_w rfl _ _ rfl (w.heap.size + 1) rfl _ CB _ _ HS.out.b2 Tryd.underlying25 rfl IB.out ?_
    | refine wpList_load_row_w rfl _ _ rfl w1.heap.size rfl _ CX _ _ HS.out.b5 Tryd.underlying36 rfl IX.out ?_
    | refine wpList_load_row_w rfl _ _ rfl w2.heap.size rfl _ CY _ _ HS.out.b7 Tryd.underlying36 rfl IY.out ?_)
  with_reducible refine (HDE.out _ (KXA.out _ HS.out) (HG.out _ HS.out.x)).mono ?_
  rintro e w5 ⟨hD, hb5⟩
  rw [HDR.out] at hD
  obtain ⟨L6, he6, hI6⟩ := hD.1 rfl
  have hit : itemOf (tree a).kids = a := itemOf_flds _
  rw [hit] at he6 hI6
  subst he6
  have SM6 := Lib.hid (SM.out L6)
  obtain ⟨C6, hc6, hn6, ho6, hk6⟩ := It.packed a L6
  rw [hc6] at SM6 ⊢
  obtain ⟨W5, hW5⟩ : ∃ W, ((w5.alloc (.cells #[.int .i64 0, .int .i64 0, .int .i64 0, .string ⟨#[]⟩, .slice none 0 0, .slice none 0 0, .int .i64 0, .int .i64 0, .slice none 0 0, .int .i64 0, .string ⟨#[]⟩, .int .i64 0, .int .i64 0, .int .i64 0, .int .i64 0, .slice none 0 0, .int .i64 0] 25)).setRow w5.heap.size C6) = W := ⟨_, rfl⟩
  have E5 : Ext w5 W5 := by rw [← hW5]; exact ((Ext.refl _).alloc _).setRow (Nat.le_refl _) _
  have B9 : Hid (W5.heap[w5.heap.size]? = some (.cells C6 25 (0, 0))) := Lib.hid (by rw [← hW5]; exact setRow_at (heap_alloc_new _ _))
  have I6 := Lib.hid ((hI6.in_ HOK.out).ext E5)
  have HS := Lib.hid (HS.out.ext (hb5.trans E5))
  have F6 := Lib.hid (infoItem hn6)
  have S6 := Lib.hid hn6
  have O6 := Lib.hid ho6
  have HW5 := Lib.hid hW5
  clear hD hb5 hI6 hit hc6 hn6 ho6 hk6 hW5 E5 HDE SM
  go_wp2_with (first
    | refine wpList_load_row_w rfl _ _ rfl w.heap.size rfl _ CA _ _ HS.out.b1 Tryd.underlying25 rfl IA.out ?_
    | refine wpList_load_row_w rfl _ _ rfl (w.heap.size + 1) rfl _ CB _ _ HS.out.b2 Tryd.underlying25 rfl IB.out ?_
    | refine wpList_load_row_w rfl _ _ rfl w1.heap.size rfl _ CX _ _ HS.out.b5 Tryd.underlying36 rfl IX.out ?_
    | refine wpList_load_row_w rfl _ _ rfl w2.heap.size rfl _ CY _ _ HS.out.b7 Tryd.underlying36 rfl IY.out ?_
    | (refine wpList_store_row rfl _ _ _ rfl w5.heap.size C6 rfl rfl _ #[.int .i64 0, .int .i64 0, .int .i64 0, .string ⟨#[]⟩, .slice none 0 0, .slice none 0 0, .int .i64 0, .int .i64 0, .slice none 0 0, .int .i64 0, .string ⟨#[]⟩, .int .i64 0, .int .i64 0, .int .i64 0, .int .i64 0, .slice none 0 0, .int .i64 0] (heap_alloc_new _ _) F6.out S6.out.symm O6.out ?_; rw [HW5.out])
    | refine wpList_load_row_w rfl _ _ rfl w5.heap.size rfl _ C6 _ _ B9.out Tryd.underlying25 rfl F6.out ?_)
  clear HW5
  with_reducible refine (SM6.out _ HS.out.i1 I6.out).mono ?_
  rintro e w6 ⟨rfl, hb⟩
  have HS := Lib.hid (HS.out.ext hb)
  clear hb SM6 B9 I6
  have x4 : w6.cell? ⟨w1.heap.size, 4, none⟩ = some (.slice (some ⟨xb, xo, none⟩) 17 xc) := (cell_of_row _ _ 4 _ _ _ HS.out.b5).trans HX2.out
  have y4 : w6.cell? ⟨w2.heap.size, 4, none⟩ = some (.slice (some ⟨yb, yo, none⟩) 17 yc) := (cell_of_row _ _ 4 _ _ _ HS.out.b7).trans HY2.out
  go_wp2_with (first
    | refine wpList_load_row_w rfl _ _ rfl w.heap.size rfl _ CA _ _ HS.out.b1 Tryd.underlying25 rfl IA.out ?_
    | refine wpList_load_row_w rfl _ _ rfl (w.heap.size + 1) rfl _ CB _ _ HS.out.b2 Tryd.underlying25 rfl IB.out ?_
    | refine wpList_load_row_w rfl _ _ rfl w1.heap.size rfl _ CX _ _ HS.out.b5 Tryd.underlying36 rfl IX.out ?_
    | refine wpList_load_row_w rfl _ _ rfl w2.heap.size rfl _ CY _ _ HS.out.b7 Tryd.underlying36 rfl IY.out ?_)
  clear x4 y4
  with_reducible refine (D12.out _ HS.out.i1 HS.out.i2 (HF.out _ HS.out.x)).mono ?_
  rintro e w7 ⟨⟨NA, nc, rfl, hs, -, -⟩, hb⟩
  have HS := Lib.hid (HS.out.ext hb)
  have HNS := Lib.hid hs
  clear hb hs D12
  obtain ⟨n, hn⟩ : ∃ n, (It.diff a b).length = n := ⟨_, rfl⟩
  have hn17 : n ≤ 17 := by rw [← hn]; exact HL.out
  have HNL := Lib.hid hn
  rw [hn]
  clear hn HL
  go_wp2_with fail
  with_reducible refine (fields_law _).mono ?_
  rintro e w8 ⟨⟨FA, fc, rfl, hfs⟩, hb⟩
  have HS8 := Lib.hid (HS.out.ext hb)
  have HNS8 := Lib.hid (HNS.out.ext hb)
  have HFS := Lib.hid hfs
  clear hb hfs HS HNS
  go_wp2
  go_loopw [12, 73] (fun m i wr => ∃ k : Nat, k ≤ 17 ∧ i = .int .i64 k ∧ m = .int .i64 ((It.foldN ((It.pairs a b).take k)).length : Nat) ∧ Hid (Ext w8 wr)) (fun _ i _ => 17 - (intOf i).toNat)
  case atStart => exact ⟨0, by omega, rfl, rfl, Lib.hid (Ext.refl _)⟩
  case round =>
    obtain ⟨k, hk, rfl, rfl, HE⟩ := hrel
    by_cases hlt : k < 17
    · obtain ⟨q, s, x, y, -, h2, h3, h4, h5, h6, h7⟩ := fld_eq a b hlt
      obtain ⟨nq, hnq⟩ : ∃ nq, (!q) = nq := ⟨_, rfl⟩
      rw [hnq] at h3 h7
      have HNQ : Hid (ndE x y = !nq) := Lib.hid (by rw [h6, ← hnq, Bool.not_not])
      have HHN := Lib.hid h7
      have HCN := Lib.hid (cnt_next h3)
      have hk' : k < fldNames.length := hlt
      obtain ⟨gb, go, hgg, hgb, x0⟩ := (HFS.out.ext HE.out).at_ hk'
      subst hgg
      have hs' : fldNames[k] = s := by rw [List.getElem?_eq_getElem hk'] at h2; exact Option.some.inj h2
      rw [hs'] at x0
      have HS9 := Lib.hid (HS8.out.ext HE.out)
      obtain ⟨b1, o1, Mk, hA, -, hc, hKk⟩ := (KXA.out _ HS9.out).range h4
      obtain ⟨b2, o2, Mk', hA', -, hc', hKk'⟩ := (KYA.out _ HS9.out).range h5
      obtain ⟨rfl, rfl⟩ : xb = b1 ∧ xo = o1 := by cases hA; exact ⟨rfl, rfl⟩
      obtain ⟨rfl, rfl⟩ : yb = b2 ∧ yo = o2 := by cases hA'; exact ⟨rfl, rfl⟩
      have K4 : Hid (wr.cell? ⟨w1.heap.size, 4, none⟩ = some (.slice (some ⟨xb, xo, none⟩) 17 xc)) := Lib.hid ((cell_of_row _ _ 4 _ _ _ HS9.out.b5).trans HX2.out)
      have K5 : Hid (wr.cell? ⟨w2.heap.size, 4, none⟩ = some (.slice (some ⟨yb, yo, none⟩) 17 yc)) := Lib.hid ((cell_of_row _ _ 4 _ _ _ HS9.out.b7).trans HY2.out)
      have HC := Lib.hid hc
      have HC' := Lib.hid hc'
      have HKK := Lib.hid hKk
      have HKK' := Lib.hid hKk'
      have ki0 : (0 : Int) ≤ (k : Int) := by omega
      have ki1 : (k : Int) < 17 := by omega
      have hcl := It.foldN_le ((It.pairs a b).take k)
      have hcl2 := List.length_take_le k (It.pairs a b)
      clear h2 h3 h4 h5 h6 h7 hnq hA hA' hc hc' hKk hKk' hs' hk'
      go_wp2_with fail
      refine region_tb (by kernel_rfl) (by decide +kernel) (coE w1.heap.size w2.heap.size k) ⟨rfl, rfl, rfl, rfl⟩ 13 coD (fun _ => none) (coR w1.heap.size w2.heap.size k xb xo xc yb yo yc x y Mk Mk' nq) wr (Ext.refl _) (fun i h1 h2 => absurd h2 (Nat.not_lt.2 h1)) ?_ ?_
      · intro Tv dd lv U wz i o hE ho hlv hd hT
        obtain ⟨t5, t7, t13, tz⟩ := hE
        have hx := hT.ext
        match i, ho, hlv, hd with
        | 0, ho, hlv, hd =>
          obtain rfl := Option.some.inj ho
          have v0 := eval_old (d := dd) (hT.out 5 (by decide)) (by omega) t5
          refine tb_pure (v := .pointer (some ⟨w1.heap.size, 4, none⟩)) hT ho hd rfl rfl (by decide) (by decide) ?_ rfl
          generalize Act.eval ⟨over Tv U, dd⟩ = ev at *
          simp [execOp, go_sem, v0]
        | 1, ho, hlv, hd =>
          obtain rfl := Option.some.inj ho
          have f0 : U 78 = some (.pointer (some ⟨w1.heap.size, 4, none⟩)) := hT.facts 0 (by decide) (dep hd 0 (by kernel_rfl)) (fun c e => by cases e)
          have v0 : Act.eval ⟨over Tv U, dd⟩ (.tmp 78) = _ := eval_new (t := Tv) (d := dd) f0 (by show 78 < Tv.size; omega)
          have hc := hx.keep K4.out
          refine tb_pure (v := .slice (some ⟨xb, xo, none⟩) 17 xc) hT ho hd rfl rfl (by decide) (by decide) ?_ rfl
          generalize Act.eval ⟨over Tv U, dd⟩ = ev at *
          simp [execOp, go_sem, v0, hc]
        | 2, ho, hlv, hd =>
          obtain rfl := Option.some.inj ho
          have v0 := eval_old (d := dd) (hT.out 13 (by decide)) (by omega) t13
          refine tb_pure (v := .int .i64 (k : Int)) hT ho hd rfl rfl (by decide) (by decide) ?_ rfl
          generalize Act.eval ⟨over Tv U, dd⟩ = ev at *
          simp [execOp, go_sem, v0]
        | 3, ho, hlv, hd =>
          obtain rfl := Option.some.inj ho
          have f0 : U 79 = some (.slice (some ⟨xb, xo, none⟩) 17 xc) := hT.facts 1 (by decide) (dep hd 1 (by kernel_rfl)) (fun c e => by cases e)
          have v0 : Act.eval ⟨over Tv U, dd⟩ (.tmp 79) = _ := eval_new (t := Tv) (d := dd) f0 (by show 79 < Tv.size; omega)
          have f1 : U 80 = some (.int .i64 (k : Int)) := hT.facts 2 (by decide) (dep hd 2 (by kernel_rfl)) (fun c e => by cases e)
          have v1 : Act.eval ⟨over Tv U, dd⟩ (.tmp 80) = _ := eval_new (t := Tv) (d := dd) f1 (by show 80 < Tv.size; omega)
          refine tb_pure (v := .pointer (some ⟨xb, xo + k * 5, none⟩)) hT ho hd rfl rfl (by decide) (by decide) ?_ rfl
          generalize Act.eval ⟨over Tv U, dd⟩ = ev at *
          simp [execOp, go_sem, v0, v1, ki0, ki1]
        | 4, ho, hlv, hd =>
          obtain rfl := Option.some.inj ho
          have f0 : U 81 = some (.pointer (some ⟨xb, xo + k * 5, none⟩)) := hT.facts 3 (by decide) (dep hd 3 (by kernel_rfl)) (fun c e => by cases e)
          have v0 : Act.eval ⟨over Tv U, dd⟩ (.tmp 81) = _ := eval_new (t := Tv) (d := dd) f0 (by show 81 < Tv.size; omega)
          refine tb_pure (v := nda x Mk) hT ho hd rfl rfl (by decide) (by decide) (exec_load_mid _ _ rfl xb (xo + k * 5) v0 (ndc x Mk) _ (fun j v hv => hx.keep (HC.out j v hv)) Tryd.underlying36 rfl (infoNd5 _ _)) rfl
        | 5, ho, hlv, hd =>
          obtain rfl := Option.some.inj ho
          have v0 := eval_old (d := dd) (hT.out 7 (by decide)) (by omega) t7
          refine tb_pure (v := .pointer (some ⟨w2.heap.size, 4, none⟩)) hT ho hd rfl rfl (by decide) (by decide) ?_ rfl
          generalize Act.eval ⟨over Tv U, dd⟩ = ev at *
          simp [execOp, go_sem, v0]
        | 6, ho, hlv, hd =>
          obtain rfl := Option.some.inj ho
          have f0 : U 83 = some (.pointer (some ⟨w2.heap.size, 4, none⟩)) := hT.facts 5 (by decide) (dep hd 5 (by kernel_rfl)) (fun c e => by cases e)
          have v0 : Act.eval ⟨over Tv U, dd⟩ (.tmp 83) = _ := eval_new (t := Tv) (d := dd) f0 (by show 83 < Tv.size; omega)
          have hc := hx.keep K5.out
          refine tb_pure (v := .slice (some ⟨yb, yo, none⟩) 17 yc) hT ho hd rfl rfl (by decide) (by decide) ?_ rfl
          generalize Act.eval ⟨over Tv U, dd⟩ = ev at *
          simp [execOp, go_sem, v0, hc]
        | 7, ho, hlv, hd =>
          obtain rfl := Option.some.inj ho
          have v0 := eval_old (d := dd) (hT.out 13 (by decide)) (by omega) t13
          refine tb_pure (v := .int .i64 (k : Int)) hT ho hd rfl rfl (by decide) (by decide) ?_ rfl
          generalize Act.eval ⟨over Tv U, dd⟩ = ev at *
          simp [execOp, go_sem, v0]
        | 8, ho, hlv, hd =>
          obtain rfl := Option.some.inj ho
          have f0 : U 84 = some (.slice (some ⟨yb, yo, none⟩) 17 yc) := hT.facts 6 (by decide) (dep hd 6 (by kernel_rfl)) (fun c e => by cases e)
          have v0 : Act.eval ⟨over Tv U, dd⟩ (.tmp 84) = _ := eval_new (t := Tv) (d := dd) f0 (by show 84 < Tv.size; omega)
          have f1 : U 85 = some (.int .i64 (k : Int)) := hT.facts 7 (by decide) (dep hd 7 (by kernel_rfl)) (fun c e => by cases e)
          have v1 : Act.eval ⟨over Tv U, dd⟩ (.tmp 85) = _ := eval_new (t := Tv) (d := dd) f1 (by show 85 < Tv.size; omega)
          refine tb_pure (v := .pointer (some ⟨yb, yo + k * 5, none⟩)) hT ho hd rfl rfl (by decide) (by decide) ?_ rfl
          generalize Act.eval ⟨over Tv U, dd⟩ = ev at *
          simp [execOp, go_sem, v0, v1, ki0, ki1]
        | 9, ho, hlv, hd =>
          obtain rfl := Option.some.inj ho
          have f0 : U 86 = some (.pointer (some ⟨yb, yo + k * 5, none⟩)) := hT.facts 8 (by decide) (dep hd 8 (by kernel_rfl)) (fun c e => by cases e)
          have v0 : Act.eval ⟨over Tv U, dd⟩ (.tmp 86) = _ := eval_new (t := Tv) (d := dd) f0 (by show 86 < Tv.size; omega)
          refine tb_pure (v := nda y Mk') hT ho hd rfl rfl (by decide) (by decide) (exec_load_mid _ _ rfl yb (yo + k * 5) v0 (ndc y Mk') _ (fun j v hv => hx.keep (HC'.out j v hv)) Tryd.underlying36 rfl (infoNd5 _ _)) rfl
        | 10, ho, hlv, hd =>
          obtain rfl := Option.some.inj ho
          have f0 : U 82 = some (nda x Mk) := hT.facts 4 (by decide) (dep hd 4 (by kernel_rfl)) (fun c e => by cases e)
          have v0 : Act.eval ⟨over Tv U, dd⟩ (.tmp 82) = _ := eval_new (t := Tv) (d := dd) f0 (by show 82 < Tv.size; omega)
          have f1 : U 87 = some (nda y Mk') := hT.facts 9 (by decide) (dep hd 9 (by kernel_rfl)) (fun c e => by cases e)
          have v1 : Act.eval ⟨over Tv U, dd⟩ (.tmp 87) = _ := eval_new (t := Tv) (d := dd) f1 (by show 87 < Tv.size; omega)
          refine tb_call (f := 16) (args := #[nda x Mk, nda y Mk']) (coR_ext w1.heap.size w2.heap.size k xb xo xc yb yo yc x y Mk Mk' nq) hT ho hd rfl rfl (by decide) (by decide) (exec_call2 rfl rfl v0 v1 EN.out) ?_
          refine (equal_any 1000 (by decide) 1 x y Mk Mk' wz (HKK.out.ext hx) (HKK'.out.ext hx)).mono ?_
          rintro e w' ⟨rfl, hb⟩
          exact ⟨_, rfl, hb, by rw [HNQ.out]; rfl⟩
        | 11, ho, hlv, hd =>
          obtain rfl := Option.some.inj ho
          have f0 : U 88 = some (.bool (!nq)) := hT.facts 10 (by decide) (dep hd 10 (by kernel_rfl)) (fun c e => by cases e)
          have v0 : Act.eval ⟨over Tv U, dd⟩ (.tmp 88) = _ := eval_new (t := Tv) (d := dd) f0 (by show 88 < Tv.size; omega)
          refine tb_pure (v := .bool nq) hT ho hd rfl rfl (by decide) (by decide) ?_ rfl
          generalize Act.eval ⟨over Tv U, dd⟩ = ev at *
          simp [execOp, go_sem, v0]
        | 12, ho, hlv, hd =>
          obtain rfl := Option.some.inj ho
          have f0 : U 89 = some (.bool nq) := hT.facts 11 (by decide) (dep hd 11 (by kernel_rfl)) (fun c e => by cases e)
          have v0 : Act.eval ⟨over Tv U, dd⟩ (.tmp 89) = _ := eval_new (t := Tv) (d := dd) f0 (by show 89 < Tv.size; omega)
          refine tb_pure (v := .bool nq) hT ho hd rfl rfl (by decide) (by decide) ?_ rfl
          generalize Act.eval ⟨over Tv U, dd⟩ = ev at *
          simp [execOp, go_sem, v0]
        | i + 13, ho, _, _ => exact absurd ho (by simp)
      · intro U wz hex hout hfin
        have f15 : U 15 = some (.bool nq) := hfin 12 (by decide) rfl
        have HEX := Lib.hid (HE.out.trans hex)
        clear hex hfin
        rw [over_list]
        simp (disch := decide) only [overL, Nat.reduceAdd, hout, Option.getD_none]
        rw [f15]
        simp only [Option.getD_some]
        clear hout f15
        have hnn : (nq != nq) = false := by cases nq <;> rfl
        go_wp2_with fail
        with_reducible refine (contains_law NA nc (It.diff a b) n HNL.out s HHN.out _ (HNS8.out.ext HEX.out) (by omega)).mono ?_
        rintro e w11 ⟨rfl, hb⟩
        have HE2 := Lib.hid (HEX.out.trans hb)
        clear hb
        cases nq with
        | true =>
          go_wp2
          go_roundw
          case rel => exact ⟨k + 1, by omega, by go_num, by rw [HCN.out]; simp, HE2⟩
          case measure => simp [intOf]; omega
        | false =>
          go_wp2
          go_roundw
          case rel => exact ⟨k + 1, by omega, by go_num, by rw [HCN.out]; simp, HE2⟩
          case measure => simp [intOf]; omega
    · obtain rfl : k = 17 := by omega
      have hcnt : (It.foldN ((It.pairs a b).take 17)).length = n := by rw [← HNL.out]; rfl
      rw [hcnt]
      have HS := Lib.hid (HS8.out.ext HE.out)
      clear hcnt HS8 HE HFS HNS8
      have HEQ0 : Hid (decide (It.diff a b = []) = decide (n = 0)) := Lib.hid (by rw [← HNL.out, Bool.eq_iff_iff]; simp [List.length_eq_zero_iff])
      rw [HEQ0.out] at HEQ
      by_cases h0 : n = 0
      · have t0 : ((n : Int) == 0) = true := by rw [h0]; rfl
        have HE0 : Hid (decide (n = 0) = true) := Lib.hid (decide_eq_true h0)
        rw [HE0.out] at HEQ
        clear h0
        go_wp2_with (first
    | refine wpList_load_row_w rfl _ _ rfl w.heap.size rfl _ CA _ _ HS.out.b1 Tryd.underlying25 rfl IA.out ?_
    | refine wpList_load_row_w rfl _ _ rfl (w.heap.size + 1) rfl _ CB _ _ HS.out.b2 Tryd.underlying25 rfl IB.out ?_
    | refine wpList_load_row_w rfl _ _ rfl w1.heap.size rfl _ CX _ _ HS.out.b5 Tryd.underlying36 rfl IX.out ?_
    | refine wpList_load_row_w rfl _ _ rfl w2.heap.size rfl _ CY _ _ HS.out.b7 Tryd.underlying36 rfl IY.out ?_)
        with_reducible refine (HEQ.out _ (KXA.out _ HS.out) (KYA.out _ HS.out)).mono ?_
        rintro e w10 ⟨rfl, hb⟩
        have HS := Lib.hid (HS.out.ext hb)
        clear hb
        go_wp2_with fail
        with_reducible refine (awake_any _ (fun w' he => ⟨HG.out _ (HS.out.x.trans he), HF.out _ (HS.out.x.trans he)⟩)).mono ?_
        rintro e w9 ⟨rfl, hb⟩
        have HXX := Lib.hid (HS.out.x.trans hb)
        clear hb
        go_wp2
        go_ret
        exact ⟨rfl, HXX.out⟩
      · have t0 : ((n : Int) == 0) = false := by rw [beq_eq_false_iff_ne]; omega
        have HE0 : Hid (decide (n = 0) = false) := Lib.hid (decide_eq_false h0)
        rw [HE0.out] at HEQ
        clear h0
        go_wp2_with (first
    | refine wpList_load_row_w rfl _ _ rfl w.heap.size rfl _ CA _ _ HS.out.b1 Tryd.underlying25 rfl IA.out ?_
    | refine wpList_load_row_w rfl _ _ rfl (w.heap.size + 1) rfl _ CB _ _ HS.out.b2 Tryd.underlying25 rfl IB.out ?_
    | refine wpList_load_row_w rfl _ _ rfl w1.heap.size rfl _ CX _ _ HS.out.b5 Tryd.underlying36 rfl IX.out ?_
    | refine wpList_load_row_w rfl _ _ rfl w2.heap.size rfl _ CY _ _ HS.out.b7 Tryd.underlying36 rfl IY.out ?_)
        with_reducible refine (HEQ.out _ (KXA.out _ HS.out) (KYA.out _ HS.out)).mono ?_
        rintro e w10 ⟨rfl, hb⟩
        have HS := Lib.hid (HS.out.ext hb)
        clear hb
        go_wp2_with fail
        with_reducible refine (awake_any _ (fun w' he => ⟨HG.out _ (HS.out.x.trans he), HF.out _ (HS.out.x.trans he)⟩)).mono ?_
        rintro e w9 ⟨rfl, hb⟩
        have HXX := Lib.hid (HS.out.x.trans hb)
        clear hb
        go_wp2
        go_ret
        exact ⟨rfl, HXX.out⟩
theorem itemCodec_laid (os : Os) : laidMet Tryd.prog Rows.itemCodecRow.laid ((laidW os).forCall (fun _ _ => 0) ⟨#[], #[.agg #[.int .i64 0, .int .i64 0, .int .i64 0, .string ⟨#[]⟩, .slice none 0 0, .slice none 0 0, .int .i64 0, .int .i64 0, .slice none 0 0, .int .i64 0, .string ⟨#[]⟩, .int .i64 0, .int .i64 0, .int .i64 0, .int .i64 0, .slice none 0 0, .int .i64 0], .agg #[.int .i64 0, .int .i64 0, .int .i64 0, .string ⟨#[]⟩, .slice none 0 0, .slice none 0 0, .int .i64 0, .int .i64 0, .slice none 0 0, .int .i64 0, .string ⟨#[]⟩, .int .i64 0, .int .i64 0, .int .i64 0, .int .i64 0, .slice none 0 0, .int .i64 0]], []⟩).memory :=
  laidMet_of_run' 8 (by kernel_rfl) (by kernel_rfl)
theorem itemCodec_reads (os : Os) {H : Type} (enc : TypeId × Value → H) : ∃ places, DataW.whole enc Tryd.prog ((laidW os).forCall (fun _ _ => 0) ⟨#[], #[.agg #[.int .i64 0, .int .i64 0, .int .i64 0, .string ⟨#[]⟩, .slice none 0 0, .slice none 0 0, .int .i64 0, .int .i64 0, .slice none 0 0, .int .i64 0, .string ⟨#[]⟩, .int .i64 0, .int .i64 0, .int .i64 0, .int .i64 0, .slice none 0 0, .int .i64 0], .agg #[.int .i64 0, .int .i64 0, .int .i64 0, .string ⟨#[]⟩, .slice none 0 0, .slice none 0 0, .int .i64 0, .int .i64 0, .slice none 0 0, .int .i64 0, .string ⟨#[]⟩, .int .i64 0, .int .i64 0, .int .i64 0, .int .i64 0, .slice none 0 0, .int .i64 0]], []⟩).memory Tryd.f4.params.toList Rows.itemCodecSpec.vars false (#[.agg #[.int .i64 0, .int .i64 0, .int .i64 0, .string ⟨#[]⟩, .slice none 0 0, .slice none 0 0, .int .i64 0, .int .i64 0, .slice none 0 0, .int .i64 0, .string ⟨#[]⟩, .int .i64 0, .int .i64 0, .int .i64 0, .int .i64 0, .slice none 0 0, .int .i64 0], .agg #[.int .i64 0, .int .i64 0, .int .i64 0, .string ⟨#[]⟩, .slice none 0 0, .slice none 0 0, .int .i64 0, .int .i64 0, .slice none 0 0, .int .i64 0, .string ⟨#[]⟩, .int .i64 0, .int .i64 0, .int .i64 0, .int .i64 0, .slice none 0 0, .int .i64 0]] : Array Value).toList 8 = some ([.agg [.lit (.int .i64 0), .lit (.int .i64 0), .lit (.int .i64 0), .lit (.string []), .nil, .nil, .lit (.int .i64 0), .lit (.int .i64 0), .nil, .lit (.int .i64 0), .lit (.string []), .lit (.int .i64 0), .lit (.int .i64 0), .lit (.int .i64 0), .lit (.int .i64 0), .nil, .lit (.int .i64 0)], .agg [.lit (.int .i64 0), .lit (.int .i64 0), .lit (.int .i64 0), .lit (.string []), .nil, .nil, .lit (.int .i64 0), .lit (.int .i64 0), .nil, .lit (.int .i64 0), .lit (.string []), .lit (.int .i64 0), .lit (.int .i64 0), .lit (.int .i64 0), .lit (.int .i64 0), .nil, .lit (.int .i64 0)]], [], places) :=
  ⟨[], by kernel_rfl⟩
set_option maxRecDepth 100000 in
theorem itemCodec_lifted (os : Os) (started : os.Started) (H : Type) (enc : TypeId × Value → H) (F : Stop.Interp) :
    ReturnsInHanded {} Tryd.checked os 4 .any ((OpenSpec.ofChange Rows.itemCodecSpec).preRow enc Tryd.prog Tryd.f4 Rows.itemCodecRow.domain false Rows.itemCodecRow.laid) (((OpenSpec.ofChange Rows.itemCodecSpec).at F).post enc Tryd.prog Tryd.f4 false true false false) := by
  obtain ⟨places, hx⟩ := itemCodec_reads os enc
  refine returnsInHanded_of_row (C := Tryd.checked) (s := (OpenSpec.ofChange Rows.itemCodecSpec)) Tryd.own started (by kernel_rfl) Tryd.func4
    (witness_row_at (enc := enc) (C := Tryd.checked) false (laidW os) #[.agg #[.int .i64 0, .int .i64 0, .int .i64 0, .string ⟨#[]⟩, .slice none 0 0, .slice none 0 0, .int .i64 0, .int .i64 0, .slice none 0 0, .int .i64 0, .string ⟨#[]⟩, .int .i64 0, .int .i64 0, .int .i64 0, .int .i64 0, .slice none 0 0, .int .i64 0], .agg #[.int .i64 0, .int .i64 0, .int .i64 0, .string ⟨#[]⟩, .slice none 0 0, .slice none 0 0, .int .i64 0, .int .i64 0, .slice none 0 0, .int .i64 0, .string ⟨#[]⟩, .int .i64 0, .int .i64 0, .int .i64 0, .int .i64 0, .slice none 0 0, .int .i64 0]] rfl (by kernel_rfl) (by kernel_rfl) (by kernel_rfl)
      (OpenSpec.preRow_of_cond 8 hx (by kernel_rfl) (fun k hk => by cases hk) (by kernel_rfl) (itemCodec_laid os))) ?_
  intro W base args ds gs before hval0 hW _ hcond hsz0 hL hsh _
  have hval : ∀ (j : Nat) t v, Tryd.f4.params[j]? = some t → args[j]? = some v → Value.okWide Tryd.prog W .any base t v := hval0
  have hW' : DataW.Whole enc Tryd.prog Tryd.f4.params.toList Rows.itemCodecSpec.vars false W args.toList ds gs before := hW
  have hW2 := hW'
  obtain ⟨p, q, hA0, hV, rfl, hfz, hnd⟩ := hW2
  have hA : DataW.TrodAll enc Tryd.prog W 0 (fun _ => true) true Tryd.f4.params.toList args.toList ds p := hA0
  rw [Tryd.params4] at hA hval
  obtain ⟨v0, vs0, d0, ds0, p0, q0, hargs, rfl, rfl, h0, r0⟩ := trodAll_cons hA
  obtain ⟨v1, vs1, d1, ds1, p1, q1, rfl, rfl, rfl, h1, r1⟩ := trodAll_cons r0
  obtain ⟨rfl, rfl, rfl⟩ := trodAll_nil r1
  obtain rfl : args = #[v0, v1] := by cases args; simp_all
  obtain ⟨rfl, rfl⟩ := trodVars_none hV
  obtain ⟨mx, hmx⟩ := Go.Proofs.cell_of_shapedOpen_int (g := 1) (zero := #[.int .i64 0]) (t := 3) hsh (by decide +kernel) (by kernel_rfl) (by decide) (by kernel_rfl) (by kernel_rfl) Tryd.underlying3
  have hsz : (DataW.weightsEach Tryd.prog (Tryd.f4.params.toList ++ Rows.itemCodecSpec.plain.varTypes Tryd.prog) _).all (· ≤ reachBytes) = true := hsz0
  rw [Tryd.params4] at hsz
  obtain ⟨a, La, rfl, hR1⟩ := item_open (hval 0 25 v0 rfl rfl) h0 (light_arg hsz (j := 0) rfl rfl)
  obtain ⟨b, Lb, rfl, hR2⟩ := item_open (hval 1 25 v1 rfl rfl) h1 (light_arg hsz (j := 1) rfl rfl)
  refine (itemCodec_walk a b La Lb W hR1 hR2 ⟨mx, hmx⟩ (fld_of hL (by kernel_rfl) (by kernel_rfl))).mono fun e W' ⟨he, hw⟩ => ?_
  subst he
  exact ⟨_, rfl, law_post (s := Rows.itemCodecSpec) hW' Tryd.laidOut (by kernel_rfl) rfl (by rfl) rfl Tryd.underlying4 hw⟩

theorem itemCodec_holds : Rows.ItemCodecSaid :=
  OpenClaim.holds_of_cond 4 Tryd.f4 rfl rfl rfl rfl rfl rfl rfl ⟨rfl, rfl, rfl, rfl, rfl⟩ rfl rfl rfl rfl rfl (by kernel_rfl) Tryd.func4 (by kernel_rfl)
    (of_decide_eq_true (by kernel_rfl)) (by unfold Func.isWrapper; first | (rw [if_pos (by decide +kernel)]; kernel_rfl) | (rw [if_neg (by decide +kernel)]; exact ⟨rfl, rfl⟩))
    (fun os started H enc _ F => by rw [OpenClaim.pre_eq_preRow]; exact itemCodec_lifted os started H enc F)
theorem itemCodec_card : Rows.ItemCodecCardSaid :=
  Claim7.holds_tied_plain_at .later [] _ _ _ _
    itemCodec_holds (fun _ h => by cases h) (by kernel_rfl) (fun _ h => by cases h) itemCodec_row_tie rfl ⟨rfl, rfl⟩ (by kernel_rfl) rfl
    (fun f fn hf hfn => by
      obtain rfl : f = 4 := Option.some.inj ((show Tryd.prog.funcNamed Rows.itemCodecRow.func = some 4 by kernel_rfl).symm.trans hf) |>.symm
      obtain rfl : fn = Tryd.f4 := (Option.some.inj (Tryd.func4.symm.trans hfn)).symm
      exact ⟨by kernel_rfl, fun j t ht => by
        rw [Tryd.params4] at ht
        have hm : t ∈ [25, 25] := by simpa using Array.mem_of_getElem? ht
        have hall : ([25, 25].all fun u => !Tryd.prog.wantsStandIn u) = true := by kernel_rfl
        exact (show Tryd.prog.wantsStandIn t = false by simpa using List.all_eq_true.1 hall t hm)⟩)
    (by kernel_rfl)
#print axioms itemCodec_card

end Go.Proofs.YtdaccamiipknmaaDoor
