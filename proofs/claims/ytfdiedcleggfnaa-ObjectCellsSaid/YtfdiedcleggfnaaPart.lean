/- Arrays and structs that lie inside a larger block: read whole, written whole; rows told by a function. -/
import Derived.Test.YtfdiedcleggfnaaSha6
namespace Go.Proofs.Ytfdiedcleggfnaa
open Go.RowKit Go.Sort

/-- n cells, told by a function. -/
def fnV (n : Nat) (f : Nat → Value) : Array Value := ((List.range n).map f).toArray
theorem fnV_size (n : Nat) (f : Nat → Value) : (fnV n f).size = n := by simp [fnV]
theorem fnV_at (n : Nat) (f : Nat → Value) {j : Nat} (h : j < n) : (fnV n f)[j]? = some (f j) := by unfold fnV; simp [h]
theorem fnV_no (n : Nat) (f : Nat → Value) {j : Nat} (h : n ≤ j) : (fnV n f)[j]? = none := Array.getElem?_eq_none (by rw [fnV_size]; exact h)
theorem fnV_ext (n : Nat) (f g : Nat → Value) (h : ∀ j, j < n → f j = g j) : fnV n f = fnV n g := by
  unfold fnV; congr 1; apply List.map_congr_left; intro j hj; exact h j (by simpa using hj)
theorem fnV_of (cs : Array Value) (n : Nat) (f : Nat → Value) (hs : cs.size = n) (h : ∀ j, j < n → cs[j]? = some (f j)) : cs = fnV n f := by
  apply Array.ext_getElem?
  intro i
  by_cases hi : i < n
  · rw [h i hi, fnV_at n f hi]
  · rw [fnV_no n f (by omega)]; exact Array.getElem?_eq_none (by omega)
theorem fnV_one (n : Nat) (f : Nat → Value) (h : ∀ j, j < n → (f j).oneCell' = true) : (fnV n f).all (·.oneCell') = true := by unfold fnV; simpa using h
theorem fnV_set (n : Nat) (f : Nat → Value) (k : Nat) (v : Value) : (fnV n f).setIfInBounds k v = fnV n (fun j => if j = k then v else f j) := by
  refine fnV_of _ n _ (by simp [fnV]) fun j hj => ?_
  rw [Array.getElem?_setIfInBounds]
  by_cases e : k = j
  · subst e; rw [if_pos rfl, if_pos (by rw [fnV_size]; exact hj), if_pos rfl]
  · rw [if_neg e, fnV_at n f hj, if_neg (fun h => e h.symm)]
/-- A row with a part written over. -/
def over (cur : Array Value) (o : Nat) (cells : Array Value) : Array Value := (cur.toList.take o ++ cells.toList ++ cur.toList.drop (o + cells.size)).toArray
theorem fnV_over (n : Nat) (f : Nat → Value) (o : Nat) (cells : Array Value) (h : o + cells.size ≤ n) : over (fnV n f) o cells = fnV n (fun j => if o ≤ j ∧ j < o + cells.size then cells.getD (j - o) undef else f j) := by
  have hl : (fnV n f).toList.length = n := by simp [fnV]
  refine fnV_of _ n _ (by unfold over; simp [hl]; omega) fun j hj => ?_
  unfold over
  rw [List.getElem?_toArray, List.append_assoc, List.getElem?_append]
  by_cases h1 : j < o
  · rw [if_pos (by simp [hl]; omega), if_neg (by omega), List.getElem?_take, if_pos h1]
    have := fnV_at n f hj; simpa using this
  · rw [if_neg (by simp [hl]; omega), List.getElem?_append]
    have e1 : ((fnV n f).toList.take o).length = o := by simp [hl]; omega
    rw [e1]
    by_cases h2 : j < o + cells.size
    · rw [if_pos (by simp; omega), if_pos ⟨by omega, h2⟩]
      have h3 : j - o < cells.size := by omega
      simp [Array.getD_eq_getD_getElem?, h3]
    · rw [if_neg (by simp; omega), if_neg (by omega), List.getElem?_drop, Array.length_toList, show o + cells.size + (j - o - cells.size) = j by omega]
      have := fnV_at n f hj; simpa using this

section
variable {P : Program}
theorem run_storeVar_part (w : World) (g o : Nat) (t ty : TypeId) (cur cells : Array Value) (hg : w.heap[g]? = some (.cells cur t (0, 0))) (hi : (P.info? ty).map (·.size) = some cells.size)
    (ho : o + cells.size ≤ cur.size) (h1 : cells.all (·.oneCell') = true) :
    (storeVar ty ⟨g, o, none⟩ (.agg cells)).run P w = .ok () (w.setRow g (over cur o cells)) := by
  have := run_storeCells_at P g o t cells.toList 0 cur w hg (by simpa using ho) (fun v hv => (Array.all_eq_true_iff_forall_mem.1 h1) v (by simpa using hv))
  simp only [Nat.add_zero, Array.length_toList] at this
  cases hq : P.info? ty with
  | none => simp [hq] at hi
  | some i =>
    have hs : cells.size = i.size := by simp [hq] at hi; omega
    unfold over
    simp [storeVar, sizeOf, typeInfo, hq, Value.cells, hs, this]
theorem run_loadVar_part (w : World) (g o : Nat) (ty : TypeId) (cs : Array Value) (d : TypeDesc) (hc : ∀ j v, cs[j]? = some v → w.cell? ⟨g, o + j, none⟩ = some v)
    (hu : P.underlying ty = some d) (hd : (match d with | .struct _ | .array _ _ => true | _ => false) = true) (hi : (P.info? ty).map (·.size) = some cs.size) :
    (loadVar ty ⟨g, o, none⟩).run P w = .ok (.agg cs) w := by
  have hl : (loadCells ⟨g, o, none⟩ cs.toList.length).run P w = .ok cs.toList.toArray w :=
    run_loadCells_list (P := P) w ⟨g, o, none⟩ cs.toList (fun j v hv => by
      rw [add_mk]; exact hc j v (by simpa using hv))
  cases hq : P.info? ty with
  | none => simp [hq] at hi
  | some i =>
    have hs : i.size = cs.size := by simpa [hq] using hi
    have hagg : (isAgg ty).run P w = .ok true w := by
      unfold isAgg
      rw [Sem.run_bind, run_underlying hu w]
      cases d <;> simp_all
    simp only [Array.length_toList, Array.toArray_toList] at hl
    simp [loadVar, Sem.run_bind, hagg, sizeOf, typeInfo, hq, hs, hl]
theorem wpList_store_part {ops : Array Oper} {rest : List Oper} {op : Oper} {a : Act} {w : World} {Q : Exit → Act → World → Prop} (hgd : op.guard = none) (ty : TypeId) (x y : Operand) (ho : op.op = .store ty x y)
    (hd : op.dst = none) (g o : Nat) (cells : Array Value) (hx : a.eval x = .pointer (some ⟨g, o, none⟩)) (hy : a.eval y = .agg cells)
    (t : TypeId) (cur : Array Value) (hg : w.heap[g]? = some (.cells cur t (0, 0))) (hi : (P.info? ty).map (·.size) = some cells.size)
    (hfit : o + cells.size ≤ cur.size) (h1 : cells.all (·.oneCell') = true)
    (h : wpList P ops Q rest a (w.setRow g (over cur o cells))) : wpList P ops Q (op :: rest) a w :=
  wpList_plain hgd fun K hK => by
    unfold Oper.wp execOp
    simp only [ho, hx, hy, Instr.storeAt, Instr.sureAddr, Sem.run_bind, Sem.run_pure, Result.andThen_ok, run_storeVar_part w g o t ty cur cells hg hi hfit h1]
    exact hK _ _ (by rw [hd]; exact h)
theorem wpList_load_part {ops : Array Oper} {rest : List Oper} {op : Oper} {a : Act} {w : World} {Q : Exit → Act → World → Prop} (hgd : op.guard = none) (ty : TypeId) (x : Operand) (ho : op.op = .load ty x)
    (g o : Nat) (hx : a.eval x = .pointer (some ⟨g, o, none⟩)) (cs : Array Value) (d : TypeDesc) (hc : ∀ j v, cs[j]? = some v → w.cell? ⟨g, o + j, none⟩ = some v)
    (hu : P.underlying ty = some d) (hd : (match d with | .struct _ | .array _ _ => true | _ => false) = true) (hi : (P.info? ty).map (·.size) = some cs.size)
    (h : wpList P ops Q rest (a.put op.dst (.agg cs)) w) : wpList P ops Q (op :: rest) a w :=
  wpList_plain hgd fun K hK => by
    unfold Oper.wp execOp
    simp only [ho, hx, Instr.loadAt, Instr.sureAddr, Sem.run_bind, Sem.run_pure, Result.andThen_ok, run_loadVar_part w g o ty cs d hc hu hd hi]
    exact hK _ _ h
end

theorem sliceAt64 (b o k : Nat) (hk : k < 64) (w : World) : (Instr.sliceAt 302 (.pointer (some ⟨b, o, none⟩)) (some (.int .i64 (k : Int))) none none).run Try.prog w = .ok (.slice (some ⟨b, o + k, none⟩) (64 - k) (64 - k)) w := by
  have hu : Try.prog.underlying 302 = some (.array 64 5) := by kernel_rfl
  obtain ⟨i0, hi, hz0, hz1, hz2⟩ := info_parts infoU8
  have h1 : ¬ (64 = k) := by omega
  have h2 : (k : Int) ≤ 64 := by omega
  have hb : (Instr.sliceBound (.int .i64 (k : Int)) 64 .sliceB).run Try.prog w = .ok k w := by
    unfold Instr.sliceBound
    simp [asIntOf]
    intro h; omega
  simp [Instr.sliceAt, run_underlying hu, Instr.sureAddr, Instr.sliceBounds, hb, sizeOf, typeInfo, hi, hz1, h1, Result.andThen]

/-! ### A Hash in memory: 8 words, 64 bytes that wait, how many wait, how many came -/
def hashF (st : S8) (F : Nat → UInt8) (held n : Int) (j : Nat) : Value :=
  if j < 8 then .int .u32 (iw (s8f st j)) else if j < 72 then .int .u8 (F (j - 8)).toNat else if j = 72 then .int .i64 held else .int .u64 n
def hashV (st : S8) (F : Nat → UInt8) (held n : Int) : Array Value := fnV 74 (hashF st F held n)
theorem hashF_st (st : S8) (F : Nat → UInt8) (held n : Int) {j : Nat} (h : j < 8) : hashF st F held n j = .int .u32 (iw (s8f st j)) := if_pos h
theorem hashF_by (st : S8) (F : Nat → UInt8) (held n : Int) {j : Nat} (h : j < 64) : hashF st F held n (8 + j) = .int .u8 (F j).toNat := by
  unfold hashF; rw [if_neg (by omega), if_pos (by omega), Nat.add_sub_cancel_left]
theorem hashF_72 (st : S8) (F : Nat → UInt8) (held n : Int) : hashF st F held n 72 = .int .i64 held := rfl
theorem hashF_73 (st : S8) (F : Nat → UInt8) (held n : Int) : hashF st F held n 73 = .int .u64 n := rfl
theorem hashV_held (st : S8) (F : Nat → UInt8) (held n x : Int) : (hashV st F held n).setIfInBounds 72 (.int .i64 x) = hashV st F x n := by
  unfold hashV; rw [fnV_set]; refine fnV_ext _ _ _ fun j hj => ?_
  unfold hashF
  by_cases e : j = 72
  · subst e; rfl
  · rw [if_neg e]; split; rfl; split; rfl; simp [e]
theorem hashV_n (st : S8) (F : Nat → UInt8) (held n x : Int) : (hashV st F held n).setIfInBounds 73 (.int .u64 x) = hashV st F held x := by
  unfold hashV; rw [fnV_set]; refine fnV_ext _ _ _ fun j hj => ?_
  unfold hashF
  by_cases e : j = 73
  · subst e; rfl
  · rw [if_neg e]; split; rfl; split; rfl; have : j = 72 := by omega
    rw [if_pos this, if_pos this]
theorem hashV_st (st st' : S8) (F : Nat → UInt8) (held n : Int) : over (hashV st F held n) 0 (s8V st') = hashV st' F held n := by
  unfold hashV
  rw [fnV_over _ _ _ _ (by rw [s8V_size]; omega)]
  refine fnV_ext _ _ _ fun j hj => ?_
  rw [s8V_size]
  by_cases h : j < 8
  · rw [if_pos ⟨by omega, by omega⟩, hashF_st _ _ _ _ h, s8V_arr, Array.getD_eq_getD_getElem?, arrV_at _ _ (by omega)]; rfl
  · rw [if_neg (by omega)]; unfold hashF; rw [if_neg h, if_neg h]
theorem hashV_by (st : S8) (F : Nat → UInt8) (held n : Int) (o m : Nat) (G : Nat → UInt8) (h : o + m ≤ 64) :
    over (hashV st F held n) (8 + o) (bytV m G) = hashV st (fun j => if o ≤ j ∧ j < o + m then G (j - o) else F j) held n := by
  unfold hashV
  rw [fnV_over _ _ _ _ (by rw [bytV_size]; omega)]
  refine fnV_ext _ _ _ fun j hj => ?_
  rw [bytV_size]
  by_cases h1 : 8 + o ≤ j ∧ j < 8 + o + m
  · rw [if_pos h1, Array.getD_eq_getD_getElem?, bytV_at _ _ (by omega)]
    unfold hashF; rw [if_neg (by omega), if_pos (by omega)]
    simp only [Option.getD_some]
    rw [if_pos ⟨by omega, by omega⟩, show j - (8 + o) = j - 8 - o by omega]
  · rw [if_neg h1]; unfold hashF
    split
    · rfl
    · split
      · simp only []
        rw [if_neg (by omega)]
      · rfl
end Go.Proofs.Ytfdiedcleggfnaa
