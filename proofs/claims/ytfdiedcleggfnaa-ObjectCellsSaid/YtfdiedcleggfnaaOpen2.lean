/- What an argument reads as: cells. -/
import Derived.Test.YtfdiedcleggfnaaOpen
namespace Go.Proofs.Ytfdiedcleggfnaa
open Go.RowKit Go.ChangeShapes Go.WideShapes

section
variable {H : Type} {enc : TypeId × Value → H} {W : World} {base : Nat} {sp : Nat → Bool} {held : Bool}
set_option maxRecDepth 100000 in
theorem open_cell {r : Reach} {b0 : Nat} {v : Value} {d : DataW H} {p : List MemPlace} (hv : Value.okWide Try.prog W r b0 57 v) (h : DataW.Trod enc Try.prog W base sp held 57 v d p)
    (hw : ∀ k ∈ d.weights Try.prog 57, k ≤ reachBytes) : ∃ (K V : ByteArray), v = .agg #[.string K, .string V] ∧ K.size ≤ reachBytes ∧ V.size ≤ reachBytes := by
  obtain ⟨v0, v1, y0, y1, n, rfl, rfl, -, h0, h1⟩ := Go.Joins.open_agg2 Try.underlying57 (by kernel_rfl) (by kernel_rfl) hv h
  obtain ⟨K, e0, hy0, -⟩ := DataW.trod_string Try.underlying9 h0
  obtain ⟨V, e1, hy1, -⟩ := DataW.trod_string Try.underlying9 h1
  simp at e0 e1
  subst e0 e1
  have w0 := hw K.data.toList.length (by simp only [DataW.weights, Try.underlying57]; simp [DataW.weightsEach, hy0, DataW.weights])
  have w1 := hw V.data.toList.length (by simp only [DataW.weights, Try.underlying57]; simp [DataW.weightsEach, hy1, DataW.weights])
  rw [Array.length_toList] at w0 w1
  exact ⟨K, V, rfl, w0, w1⟩
end
end Go.Proofs.Ytfdiedcleggfnaa
