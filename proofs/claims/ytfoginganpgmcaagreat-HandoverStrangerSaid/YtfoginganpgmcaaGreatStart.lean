/- From a call's start to its end: what the rows ask. -/
import Derived.Test.YtfoginganpgmcaaGreatOpen
set_option linter.unusedSimpArgs false
set_option linter.unusedVariables false
namespace Go.Tw
open Go
/-- What the walk started with is as it was. -/
theorem Holds.below {W w : World} {L : List Asn} (H : Holds ⟨W.os, W.tape, W.output⟩ (fun b => W.heap[b]?) w L) : RowKit.Below W.heap.size W w := by
  have hb : ∀ k, k < W.heap.size → w.heap[k]? = W.heap[k]? := fun k hk => by
    have h1 : W.heap[k]? = some W.heap[k] := Array.getElem?_eq_getElem hk
    rw [h1]
    exact H.sld k _ h1
  refine ⟨H.os, H.tape, H.output, ?_, hb⟩
  rcases Nat.eq_zero_or_pos W.heap.size with h | h
  · omega
  · have h2 := hb (W.heap.size - 1) (by omega)
    rw [Array.getElem?_eq_getElem (by omega : W.heap.size - 1 < W.heap.size)] at h2
    have := (Array.getElem?_eq_some_iff.1 h2).1
    omega
section
variable {H : Type} {enc : TypeId × Value → H} {P : Program} {w W : World}
theorem ik_of {k : IntKind} {n : Int} (h : (Lit.int k n).wf = true) : ∃ i : IK k, i.n = n := ⟨⟨n, (wf_ik h).1, (wf_ik h).2⟩, rfl⟩
/-- A struct that came in by value. -/
theorem open_val {α : Type} {cd : α → Value} {r : Reach} {b0 : Nat} {t : TypeId} {fs : Array Field} {v : Value} {d : DataW H} {p : List MemPlace} (ht : P.underlying t = some (.struct fs)) (ho : Opens enc P w t (fun cs => ∃ y : α, cs = (cd y).cells.toList)) (hcd : ∀ y, ∃ cs, cd y = .agg cs)
    (hv : Value.okWide P W r b0 t v) (h : DataW.Trod enc P w 0 (fun _ => true) true t v d p) : ∃ y : α, v = cd y := by
  obtain ⟨cs, rfl, _⟩ := WideShapes.okWide_struct ht hv
  obtain ⟨fuel, hf⟩ := h
  obtain ⟨y, hy⟩ := ho _ _ _ hf
  obtain ⟨cs', hc⟩ := hcd y
  refine ⟨y, ?_⟩
  rw [hc] at hy ⊢
  exact congrArg Value.agg (Array.ext' hy)
end
end Go.Tw
