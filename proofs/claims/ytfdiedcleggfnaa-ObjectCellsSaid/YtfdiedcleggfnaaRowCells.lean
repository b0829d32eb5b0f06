/- The row of ObjectCells: whatever the input, it returns true, and the input reads as it did. No condition. -/
import Derived.Test.YtfdiedcleggfnaaRows
import Derived.Test.YtfdiedcleggfnaaOpen2
import Derived.Test.YtfdiedcleggfnaaObj9
import Derived.Test.YtfdiedcleggfnaaRowFacts
namespace Go.Proofs.Ytfdiedcleggfnaa.objectCells
open Go.ChangeShapes Go.WideShapes Go.ChangeAt Go.RowKit
open Go.ChangeMaps (open_string shut_string)
set_option maxRecDepth 100000 in
theorem lifted (os : Os) (started : os.Started) (H : Type) (enc : TypeId × Value → H) :
    ReturnsInHanded {} Try.checked os 5 .any (Rows.objectCellsSpec.pre6 enc Try.prog Try.f5 Rows.objectCellsRow.domain false) (Rows.objectCellsSpec.post enc Try.prog Try.f5 false true false false) := by
  refine returnsInHanded_of_change_sized (C := Try.checked) pf_own started (by kernel_rfl) Try.func5
    (ChangeSpec.witness6 (enc := enc) (C := Try.checked) false ⟨#[], #[.agg #[.string ByteArray.empty, .string ByteArray.empty]], []⟩ 8 (by kernel_rfl) (by kernel_rfl) (by kernel_rfl) (by kernel_rfl)) ?_
  intro W base args ds gs before hval0 hW hcnd hsz0 _
  have hsz : (DataW.weightsEach Try.prog (Try.f5.params.toList ++ Rows.objectCellsSpec.plain.varTypes Try.prog) (ds ++ gs)).all (· ≤ reachBytes) = true := hsz0
  have hval : ∀ (j : Nat) t v, Try.f5.params[j]? = some t → args[j]? = some v → Value.okWide Try.prog W .any base t v := hval0
  have hW' := hW
  obtain ⟨p, q, hA0, hV, rfl, hfz, hnd⟩ := hW
  have hA : DataW.TrodAll enc Try.prog W 0 (fun _ => true) true Try.f5.params.toList args.toList ds p := hA0
  rw [Try.params5] at hA hval hsz
  obtain ⟨v0, vs0, d0, ds0, p0, q0, hargs, rfl, rfl, h0, r0⟩ := trodAll_cons hA
  obtain ⟨rfl, rfl, rfl⟩ := trodAll_nil r0
  obtain rfl : args = #[v0] := by cases args; simp_all
  obtain ⟨rfl, rfl⟩ := trodVars_none hV
  have k0 := h0
  have lt0 : ∀ x ∈ p0, x.block < W.heap.size := by obtain ⟨m, hm⟩ := k0; exact DataW.trod_lt m _ _ _ hm
  have hw0 : ∀ k ∈ d0.weights Try.prog 57, k ≤ reachBytes := fun k hk => by
    have := List.all_eq_true.1 hsz _ (DataW.weights_mem_each (j := 0) (t := 57) rfl rfl k hk)
    simpa using this
  obtain ⟨K, V, rfl, hn, hm⟩ := open_cell (hval 0 57 v0 rfl rfl) h0 hw0
  clear hA0 hval0 hsz0 hsz hval hw0
  have er : reachBytes = 140737488351232 := rfl
  rw [er] at hn hm
  refine (lawObjectCells K V W (by omega) (by omega)).mono fun e W' ⟨he, bel⟩ => ?_
  subst he
  exact ⟨_, rfl, _, _, _, [], _, [], hW', trodAll_mk1 (shut_bool Try.underlying4 _), (trodAll_cons_mk (Below.trod pf_laid (by kernel_rfl) (of_decide_eq_true (by kernel_rfl)) k0 bel lt0) trodAll_mk0), rfl, bel.frame _, fun h => by cases h⟩
theorem c1 : Rows.objectCellsRow.wf (OpenSpec.ofChange Rows.objectCellsSpec) = true := by kernel_rfl
theorem c4 : (Try.f5.params.all (Try.prog.readableRec ·)) = true := by kernel_rfl
theorem c5 : namedTie Try.prog Rows.objectCellsRow.named Rows.objectCellsSpec.vars = true := by kernel_rfl
theorem c10 : (Rows.objectCellsRow.inPlace == Try.prog.inPlace 5) = true := by kernel_rfl
theorem c11 : (Rows.objectCellsRow.unfollowed == Try.prog.unfollowed 5) = true := by kernel_rfl
theorem c12 : (Rows.objectCellsRow.recurses == Try.prog.recurses 5) = true := by kernel_rfl
theorem c13 : (Rows.objectCellsRow.named == Try.prog.varsNamed 5) = true := by kernel_rfl
theorem c14 : (Rows.objectCellsRow.maps == (Try.f5.params.toList ++ Rows.objectCellsSpec.plain.varTypes Try.prog).any (Try.prog.mapsRec ·)) = true := by kernel_rfl
theorem c15 : (Rows.objectCellsRow.ifaces == (Try.f5.params.toList ++ Rows.objectCellsSpec.plain.varTypes Try.prog).any (Try.prog.ifacesRec ·)) = true := by kernel_rfl
theorem c16 : (Rows.objectCellsRow.mapsOut == Try.prog.mapsAmong Try.f5.resultTypes.toList) = true := by kernel_rfl
theorem c17 : (Rows.objectCellsRow.loops == (Try.f5.params.toList ++ Rows.objectCellsSpec.plain.varTypes Try.prog).any (Try.prog.loopsFrom ·)) = true := by kernel_rfl
theorem c18 : (Rows.objectCellsRow.wideKeys == (Try.f5.params.toList ++ Rows.objectCellsSpec.plain.varTypes Try.prog ++ Try.f5.resultTypes.toList).any (Try.prog.wideKeysFrom ·)) = true := by kernel_rfl
theorem c20 : Try.f5.resultTypes.all (fun t => Try.prog.readableRec t && decide (t < Try.prog.types.size)) = true := by kernel_rfl
theorem c21 : (Rows.objectCellsRow.ifacesOut == Try.f5.resultTypes.toList.any (Try.prog.ifacesRec ·)) = true := by kernel_rfl
theorem c22 : (Rows.objectCellsRow.loopsOut == Try.f5.resultTypes.toList.any (Try.prog.loopsFrom ·)) = true := by kernel_rfl
theorem c23 : (Rows.objectCellsRow.plainKeys == Try.prog.plainKeys) = true := by kernel_rfl
theorem c27 : (Rows.objectCellsRow.lifted == Try.prog.liftsFinal) = true := by kernel_rfl
theorem c28 : (Try.prog.make == some Rows.objectCellsRow.make) = true := by kernel_rfl
theorem c31 : (Rows.objectCellsRow.veiled == (Try.f5.params.toList ++ Rows.objectCellsSpec.plain.varTypes Try.prog ++ Try.f5.resultTypes.toList).any (Try.prog.veiledRec ·)) = true := by kernel_rfl
theorem c32 : Rows.objectCellsRow.veiledFits Try.prog Try.f5.params.toList (Try.f5.params.toList ++ Rows.objectCellsSpec.plain.varTypes Try.prog ++ Try.f5.resultTypes.toList) = true := by kernel_rfl
theorem named : Try.prog.funcNamed Rows.objectCellsRow.func = some 5 := by kernel_rfl
theorem closed : joinedFacts Try.prog 5 Try.f5 Rows.objectCellsSpec Rows.objectCellsRow = true :=
  joined_of c1 pf_laid pf_maps c4 c5 rfl pf_stops rfl pf_knobs c10 c11 c12 c13 c14 c15 c16 c17 c18 rfl c20 c21 c22 c23 rfl pf_heard pf_enter c27 c28 rfl rfl c31 c32
theorem isInst : Try.f5.isInstance Try.prog Rows.objectCellsRow.origin Rows.objectCellsRow.targs := of_decide_eq_true (by kernel_rfl)
theorem isWrap : Try.f5.isWrapper Try.prog Rows.objectCellsRow.wrapper Rows.objectCellsRow.mainSum := by unfold Func.isWrapper; first | (rw [if_pos (by decide +kernel)]; kernel_rfl) | (rw [if_neg (by decide +kernel)]; exact ⟨rfl, rfl⟩)
theorem over : Rows.objectCellsRow.holds Try.pinned (OpenSpec.ofChange Rows.objectCellsSpec) :=
  OpenClaim.holds_of_wide 5 Try.f5 rfl rfl rfl rfl rfl rfl rfl ⟨rfl, rfl, rfl, rfl, rfl⟩ rfl rfl rfl rfl rfl named Try.func5 closed
    isInst isWrap
    (fun os started H enc _ => lifted os started H enc)
theorem proved : Rows.ObjectCellsSaid := over
#print axioms proved
end Go.Proofs.Ytfdiedcleggfnaa.objectCells
