/- The row of DvvBytes: whatever the input, it returns true, and the input reads as it did. No condition. -/
import Derived.Test.YtfdiedcleggfnaaRows
import Derived.Test.YtfdiedcleggfnaaOpen
import Derived.Test.YtfdiedcleggfnaaRowFacts
namespace Go.Proofs.Ytfdiedcleggfnaa.dvvBytes
open Go.ChangeShapes Go.WideShapes Go.ChangeAt Go.RowKit
open Go.ChangeMaps (open_string shut_string)
set_option maxRecDepth 100000 in
theorem lifted (os : Os) (started : os.Started) (H : Type) (enc : TypeId × Value → H) :
    ReturnsInHanded {} Try.checked os 3 .any (Rows.dvvBytesSpec.pre6 enc Try.prog Try.f3 Rows.dvvBytesRow.domain false) (Rows.dvvBytesSpec.post enc Try.prog Try.f3 false true false false) := by
  refine returnsInHanded_of_change_sized (C := Try.checked) pf_own started (by kernel_rfl) Try.func3
    (ChangeSpec.witness6 (enc := enc) (C := Try.checked) false ⟨#[], #[.agg #[.slice none 0 0, .slice none 0 0], .string ByteArray.empty], []⟩ 8 (by kernel_rfl) (by kernel_rfl) (by kernel_rfl) (by kernel_rfl)) ?_
  intro W base args ds gs before hval0 hW hcnd hsz0 _
  have hsz : (DataW.weightsEach Try.prog (Try.f3.params.toList ++ Rows.dvvBytesSpec.plain.varTypes Try.prog) (ds ++ gs)).all (· ≤ reachBytes) = true := hsz0
  have hval : ∀ (j : Nat) t v, Try.f3.params[j]? = some t → args[j]? = some v → Value.okWide Try.prog W .any base t v := hval0
  have hW' := hW
  obtain ⟨p, q, hA0, hV, rfl, hfz, hnd⟩ := hW
  have hA : DataW.TrodAll enc Try.prog W 0 (fun _ => true) true Try.f3.params.toList args.toList ds p := hA0
  rw [Try.params3] at hA hval hsz
  obtain ⟨v0, vs0, d0, ds0, p0, q0, hargs, rfl, rfl, h0, r0⟩ := trodAll_cons hA
  obtain ⟨v1, vs1, d1, ds1, p1, q1, rfl, rfl, rfl, h1, r1⟩ := trodAll_cons r0
  obtain ⟨rfl, rfl, rfl⟩ := trodAll_nil r1
  obtain rfl : args = #[v0, v1] := by cases args; simp_all
  obtain ⟨rfl, rfl⟩ := trodVars_none hV
  have k0 := h0
  have lt0 : ∀ x ∈ p0, x.block < W.heap.size := by obtain ⟨m, hm⟩ := k0; exact DataW.trod_lt m _ _ _ hm
  have hw0 : ∀ k ∈ d0.weights Try.prog 25, k ≤ reachBytes := fun k hk => by
    have := List.all_eq_true.1 hsz _ (DataW.weights_mem_each (j := 0) (t := 25) rfl rfl k hk)
    simpa using this
  obtain ⟨A, B, st, c, e0, rfl, hrA, hrB, hn, hm⟩ := open_state (hval 0 25 v0 rfl rfl) h0 hw0
  obtain ⟨a1, rfl, rfl, rfl, y1⟩ := open_string Try.underlying9 (hval 1 9 v1 rfl rfl) h1
  have w1 : a1.size ≤ 140737488351232 := by
    have z := sized_string hsz (j := 1) (t := 9) rfl rfl
    rw [Array.length_toList] at z
    exact z
  clear hA0 hval0 hsz0 hsz hval hw0
  have er : reachBytes = 140737488351232 := rfl
  rw [er] at hn hm
  refine (lawDvvBytes A B c e0 _ _ st a1 W rfl rfl hrA hrB (by omega) (by omega) w1).mono fun e W' ⟨he, bel⟩ => ?_
  subst he
  exact ⟨_, rfl, _, _, _, [], _, [], hW', trodAll_mk1 (shut_bool Try.underlying4 _), (trodAll_cons_mk (Below.trod pf_laid (by kernel_rfl) (of_decide_eq_true (by kernel_rfl)) k0 bel lt0) (trodAll_cons_mk (shut_string Try.underlying9 y1) trodAll_mk0)), rfl, bel.frame _, fun h => by cases h⟩
theorem c1 : Rows.dvvBytesRow.wf (OpenSpec.ofChange Rows.dvvBytesSpec) = true := by kernel_rfl
theorem c4 : (Try.f3.params.all (Try.prog.readableRec ·)) = true := by kernel_rfl
theorem c5 : namedTie Try.prog Rows.dvvBytesRow.named Rows.dvvBytesSpec.vars = true := by kernel_rfl
theorem c10 : (Rows.dvvBytesRow.inPlace == Try.prog.inPlace 3) = true := by kernel_rfl
theorem c11 : (Rows.dvvBytesRow.unfollowed == Try.prog.unfollowed 3) = true := by kernel_rfl
theorem c12 : (Rows.dvvBytesRow.recurses == Try.prog.recurses 3) = true := by kernel_rfl
theorem c13 : (Rows.dvvBytesRow.named == Try.prog.varsNamed 3) = true := by kernel_rfl
theorem c14 : (Rows.dvvBytesRow.maps == (Try.f3.params.toList ++ Rows.dvvBytesSpec.plain.varTypes Try.prog).any (Try.prog.mapsRec ·)) = true := by kernel_rfl
theorem c15 : (Rows.dvvBytesRow.ifaces == (Try.f3.params.toList ++ Rows.dvvBytesSpec.plain.varTypes Try.prog).any (Try.prog.ifacesRec ·)) = true := by kernel_rfl
theorem c16 : (Rows.dvvBytesRow.mapsOut == Try.prog.mapsAmong Try.f3.resultTypes.toList) = true := by kernel_rfl
theorem c17 : (Rows.dvvBytesRow.loops == (Try.f3.params.toList ++ Rows.dvvBytesSpec.plain.varTypes Try.prog).any (Try.prog.loopsFrom ·)) = true := by kernel_rfl
theorem c18 : (Rows.dvvBytesRow.wideKeys == (Try.f3.params.toList ++ Rows.dvvBytesSpec.plain.varTypes Try.prog ++ Try.f3.resultTypes.toList).any (Try.prog.wideKeysFrom ·)) = true := by kernel_rfl
theorem c20 : Try.f3.resultTypes.all (fun t => Try.prog.readableRec t && decide (t < Try.prog.types.size)) = true := by kernel_rfl
theorem c21 : (Rows.dvvBytesRow.ifacesOut == Try.f3.resultTypes.toList.any (Try.prog.ifacesRec ·)) = true := by kernel_rfl
theorem c22 : (Rows.dvvBytesRow.loopsOut == Try.f3.resultTypes.toList.any (Try.prog.loopsFrom ·)) = true := by kernel_rfl
theorem c23 : (Rows.dvvBytesRow.plainKeys == Try.prog.plainKeys) = true := by kernel_rfl
theorem c27 : (Rows.dvvBytesRow.lifted == Try.prog.liftsFinal) = true := by kernel_rfl
theorem c28 : (Try.prog.make == some Rows.dvvBytesRow.make) = true := by kernel_rfl
theorem c31 : (Rows.dvvBytesRow.veiled == (Try.f3.params.toList ++ Rows.dvvBytesSpec.plain.varTypes Try.prog ++ Try.f3.resultTypes.toList).any (Try.prog.veiledRec ·)) = true := by kernel_rfl
theorem c32 : Rows.dvvBytesRow.veiledFits Try.prog Try.f3.params.toList (Try.f3.params.toList ++ Rows.dvvBytesSpec.plain.varTypes Try.prog ++ Try.f3.resultTypes.toList) = true := by kernel_rfl
theorem named : Try.prog.funcNamed Rows.dvvBytesRow.func = some 3 := by kernel_rfl
theorem closed : joinedFacts Try.prog 3 Try.f3 Rows.dvvBytesSpec Rows.dvvBytesRow = true :=
  joined_of c1 pf_laid pf_maps c4 c5 rfl pf_stops rfl pf_knobs c10 c11 c12 c13 c14 c15 c16 c17 c18 rfl c20 c21 c22 c23 rfl pf_heard pf_enter c27 c28 rfl rfl c31 c32
theorem isInst : Try.f3.isInstance Try.prog Rows.dvvBytesRow.origin Rows.dvvBytesRow.targs := of_decide_eq_true (by kernel_rfl)
theorem isWrap : Try.f3.isWrapper Try.prog Rows.dvvBytesRow.wrapper Rows.dvvBytesRow.mainSum := by unfold Func.isWrapper; first | (rw [if_pos (by decide +kernel)]; kernel_rfl) | (rw [if_neg (by decide +kernel)]; exact ⟨rfl, rfl⟩)
theorem over : Rows.dvvBytesRow.holds Try.pinned (OpenSpec.ofChange Rows.dvvBytesSpec) :=
  OpenClaim.holds_of_wide 3 Try.f3 rfl rfl rfl rfl rfl rfl rfl ⟨rfl, rfl, rfl, rfl, rfl⟩ rfl rfl rfl rfl rfl named Try.func3 closed
    isInst isWrap
    (fun os started H enc _ => lifted os started H enc)
theorem proved : Rows.DvvBytesSaid := over
#print axioms proved
end Go.Proofs.Ytfdiedcleggfnaa.dvvBytes
