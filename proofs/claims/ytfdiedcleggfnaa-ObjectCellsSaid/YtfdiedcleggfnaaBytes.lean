/- Bytes of a text in memory of the call's own ('[]byte(s)'), grown byte by byte. -/
import Derived.Test.YtfdiedcleggfnaaSha5
import Derived.Lib.ConvBytes
import Derived.ArgAppend
namespace Go.Proofs.Ytfdiedcleggfnaa
open Go.RowKit Go.Sort

/-- A row of bytes of the call's own, of which no cell is frozen. -/
def BRow (w : World) (P : Nat → Prop) (v : Value) (bs : List UInt8) : Prop :=
  ∃ (g cap : Nat) (cur : Array Value) (fr : Nat × Nat), v = .slice (some ⟨g, 0, none⟩) bs.length cap ∧ w.heap[g]? = some (.cells cur 5 fr) ∧ bs.length ≤ cap ∧ cap ≤ maxLen ∧ cur.size = cap ∧ cur.toList.take bs.length = vals bs ∧ (∀ j, j < cap → w.frozen? ⟨g, j, none⟩ = false) ∧ P g
theorem BRow.kp {w w' : World} {P Q : Nat → Prop} {v : Value} {bs : List UInt8} (h : BRow w P v bs) (hk : Kp Q w w') (hd : ∀ k, P k → ¬ Q k) : BRow w' P v bs := by
  obtain ⟨g, cap, cur, fr, h1, h2, h3, h4, h5, h6, h7, h8⟩ := h
  have hb := hk.block g (lt_of_heap h2) (hd g h8)
  exact ⟨g, cap, cur, fr, h1, hb.trans h2, h3, h4, h5, h6, fun j hj => (World.frozen?_of_block (a := ⟨g, j, none⟩) hb).trans (h7 j hj), h8⟩
theorem BRow.below {w w' : World} {P : Nat → Prop} {v : Value} {bs : List UInt8} (h : BRow w P v bs) (hk : Below w.heap.size w w') : BRow w' P v bs := h.kp (Kp.of_below (P := fun _ => False) hk) (fun _ _ => id)
theorem BRow.form {w : World} {P : Nat → Prop} {v : Value} {bs : List UInt8} (h : BRow w P v bs) : ∃ g cap, v = .slice (some ⟨g, 0, none⟩) bs.length cap ∧ bs.length ≤ cap ∧ cap ≤ maxLen ∧ P g ∧ RdB w g 0 bs.length (fun j => bs.getD j 0) := by
  obtain ⟨g, cap, cur, fr, h1, h2, h3, h4, h5, h6, h7, h8⟩ := h
  refine ⟨g, cap, h1, h3, h4, h8, lt_of_heap h2, fun j hj => ?_⟩
  rw [Nat.zero_add, cell_of_row w g j cur _ fr h2]
  have h9 : (vals bs)[j]? = some (.int .u8 (bs.getD j 0).toNat) := by unfold vals; simp [hj, List.getD_eq_getElem?_getD]
  rw [← h6, List.getElem?_take, if_pos hj] at h9
  simpa using h9
theorem BRow.own {w : World} {P : Nat → Prop} {A : Option Addr} {n c : Nat} {bs : List UInt8} (h : Own w P 5 1 (.slice A n c) n (vals bs)) (hn : bs.length = n) (h0 : 0 < n) : BRow w P (.slice A n c) bs := by
  rcases h.1.2 with ⟨h1, h2⟩ | ⟨g, cap, cur, hv, hb, hh, h1, h2, h3, h4⟩
  · omega
  · subst hn
    cases hv
    refine ⟨g, c, cur, (0, 0), rfl, hh, h1, h2, by omega, by simpa using h4, fun j _ => ?_, h.2 g rfl⟩
    simp [World.frozen?, hh]
theorem BRow.text (w : World) (s : ByteArray) (P : Nat → Prop) (hP : P w.heap.size) (hs : s.size ≤ 1000000000) : BRow (Lib.bytesWorld w 5 s) P (.slice (some ⟨w.heap.size, 0, none⟩) s.size (grownCap w s.size 0 5)) s.data.toList := by
  have hge := grownCap_ge w s.size 0 5
  have hsz : (Lib.bytesCells w 5 s).size = grownCap w s.size 0 5 := by
    unfold Lib.bytesCells; simp [Array.size_append]; have : s.data.size = s.size := rfl; omega
  refine ⟨w.heap.size, _, _, _, rfl, Lib.bytesWorld_at_new w 5 s, hge, grownCap_le_maxLen w _ _ _ (by unfold maxLen; omega), hsz, ?_, fun j hj => ?_, hP⟩
  · unfold Lib.bytesCells vals
    rw [Array.toList_append, List.take_append_of_le_length (by simp)]
    rw [Array.toList_map]
    exact List.take_of_length_le (by simp)
  · simp only [World.frozen?, Lib.bytesWorld_at_new]
    simp; omega
theorem below_text (w : World) (s : ByteArray) : Below w.heap.size w (Lib.bytesWorld w 5 s) :=
  ⟨rfl, rfl, rfl, by rw [Lib.bytesWorld_size]; omega, fun k hk => Lib.bytesWorld_at_old w 5 s k hk⟩
theorem wpList_text {w : World} {ops : Array Oper} {rest : List Oper} {o : Oper} {a : Act} {Q : Exit → Act → World → Prop} (hgd : o.guard = none) (x : Operand) (ho : o.op = .convert 9 210 x) (s : ByteArray) (hx : a.eval x = .string s)
    (h : wpList Try.prog ops Q rest (a.put o.dst (.slice (some ⟨w.heap.size, 0, none⟩) s.size (grownCap w s.size 0 5))) (Lib.bytesWorld w 5 s)) : wpList Try.prog ops Q (o :: rest) a w :=
  wpList_plain hgd fun K hK => by
    unfold Oper.wp execOp
    simp only [ho, hx, Sem.run_bind, Lib.run_convert_string_bytes (P := Try.prog) w _ _ 5 s Try.underlying9 Try.underlying210 Try.underlying5, Result.andThen_ok]
    exact hK _ _ h

/-- One byte more. -/
theorem BRow.append {w : World} {P : Nat → Prop} {v : Value} {bs : List UInt8} (h : BRow w P v bs) (hP : ∀ k, w.heap.size ≤ k → P k) (i : TypeInfo) (hi : Try.prog.info? 5 = some i) (hz : i.zero = some (.int .u8 0)) (hs : i.size = 1) (hb : i.bytes = 1)
    (x : UInt8) (ad : Addr) (c : Nat) (hx : w.cell? ad = some (.int .u8 x.toNat)) (hl : bs.length + 1 ≤ 140737488355328) (ty : TypeId) :
    ∃ v' w', (Builtin.append_ #[210, 210] ty #[v, .slice (some ad) 1 c]).run Try.prog w = .ok v' w' ∧ BRow w' P v' (bs ++ [x]) ∧ w.grownBy w' v.ownBlock := by
  obtain ⟨g, cap, cur, fr, rfl, h2, h3, h4, h5, h6, h7, h8⟩ := h
  have hnews : ∀ j u, [Value.int .u8 x.toNat][j]? = some u → w.cell? (ad.add j) = some u := by
    intro j u hu
    cases j with
    | zero => simp at hu; subst hu; simpa [Addr.add] using hx
    | succ j => simp at hu
  by_cases hroom : bs.length + 1 ≤ cap
  · have hcell : (w.cell? ⟨g, bs.length, none⟩).isSome = true := by rw [cell_of_row w g _ cur _ fr h2]; simp; omega
    have hr := run_append_room_cells (P := Try.prog) w 210 ty 5 i Try.underlying210 hi g 0 bs.length cap ad 1 c [.int .u8 x.toNat] (by rw [hs]; rfl) hnews (by simp [Value.oneCell']) hroom
      (fun j hj => by have : j = 0 := by simpa using hj
                      subst this; rw [hs]; simpa using hcell)
      (fun j hj => by have : j = 0 := by simpa using hj
                      subst this; rw [hs]; simpa using h7 bs.length (by omega))
    rw [hs] at hr
    simp only [Nat.mul_one, Nat.zero_add, World.setCells] at hr
    have hheap : (w.setCell ⟨g, bs.length, none⟩ (.int .u8 x.toNat)).heap[g]? = some (.cells (cur.setIfInBounds bs.length (.int .u8 x.toNat)) 5 fr) := by
      have hlt := lt_of_heap h2
      have he : w.heap[g] = .cells cur 5 fr := by have := Array.getElem?_eq_getElem hlt; rw [h2] at this; exact (Option.some.inj this).symm
      simp [World.setCell, hlt]
      rw [Array.getElem_modify_self, he]
    refine ⟨_, _, hr, ⟨g, cap, _, fr, by simp, hheap, by simpa using hroom, h4, by simpa using h5, ?_, fun j hj => ?_, h8⟩, ⟨rfl, rfl, rfl, by simp [World.setCell], fun k hk hne => Below.heap_setCell _ _ _ _ (fun e => hne (by simp [Value.ownBlock]; exact e))⟩⟩
    · rw [vals_append, Array.toList_setIfInBounds, ← h6]
      have hcl : cur.toList.length = cap := by simpa using h5
      rw [List.length_append, List.length_cons, List.length_nil, List.take_set, List.take_add_one]
      rw [List.set_append]
      have h9 : (cur.toList.take bs.length).length = bs.length := by simp; omega
      rw [if_neg (by omega), h9, Nat.sub_self]
      have h10 : cur.toList[bs.length]? = some (cur.toList[bs.length]'(by omega)) := List.getElem?_eq_getElem (by omega)
      rw [h10]; rfl
    · have := h7 j hj
      unfold World.frozen? at this ⊢
      rw [hheap]
      rw [h2] at this
      exact this
  · obtain ⟨v', w', hr, hown, hg⟩ := run_append_arg_grows (P := Try.prog) w 210 ty 5 i (.int .u8 0) 1 1 Try.underlying210 hi hz hs hb rfl (by decide) ⟨g, 0, none⟩ bs.length cap (vals bs) (by rw [vals_length, Nat.mul_one])
      (fun j u hu => by
        have hj : j < bs.length := by have := (List.getElem?_eq_some_iff.1 hu).1; simpa [vals_length] using this
        rw [add_mk, Nat.zero_add, cell_of_row w g j cur _ fr h2]
        rw [← h6, List.getElem?_take, if_pos hj] at hu
        simpa using hu) ad 1 c [.int .u8 x.toNat] rfl hnews (by omega) (by unfold maxLen; omega) (by omega)
    refine ⟨v', w', hr, ?_, ⟨hg.os, hg.tape, hg.output, hg.size, fun k hk _ => hg.block k hk (by simp)⟩⟩
    have hO : Own w' P 5 1 v' (bs.length + 1) (vals (bs ++ [x])) := ⟨by rw [vals_append]; exact ⟨hown.1, hown.2.imp id fun ⟨g, cap, cur, a1, a2, a3⟩ => ⟨g, cap, cur, a1, Nat.zero_le _, a3⟩⟩, fun k hk => hP k (hown.lt k hk).1⟩
    obtain ⟨A, c', rfl⟩ := hO.form
    exact BRow.own hO (by simp) (by omega)
theorem wpList_append_brow {w : World} {ops : Array Oper} {rest : List Oper} {o : Oper} {a : Act} {Q : Exit → Act → World → Prop} (hgd : o.guard = none) (s y : Operand)
    (ho : o.op = .call { callee := .builtin .append, args := #[s, y], argTypes := #[210, 210] }) (P : Nat → Prop) (v : Value) (bs : List UInt8) (hv : BRow w P v bs) (hP : ∀ k, w.heap.size ≤ k → P k) (x : UInt8) (ad : Addr) (c : Nat)
    (hs : a.eval s = v) (hy : a.eval y = .slice (some ad) 1 c) (hx : w.cell? ad = some (.int .u8 x.toNat)) (hl : bs.length + 1 ≤ 140737488355328)
    (h : ∀ v' w', BRow w' P v' (bs ++ [x]) → w.grownBy w' v.ownBlock → wpList Try.prog ops Q rest (a.put o.dst v') w') : wpList Try.prog ops Q (o :: rest) a w := by
  obtain ⟨i0, hi, hz0, hz1, hz2⟩ := info_parts infoU8
  refine wpList_plain hgd fun K hK => ?_
  obtain ⟨v', w', hr, h2, h3⟩ := hv.append hP i0 hi hz0 hz1 hz2 x ad c hx hl o.type
  unfold Oper.wp execOp
  simp only [ho, resolve, invoke, builtin, Sem.run_bind, Sem.run_pure, Result.andThen_ok, List.map_toArray, List.map_cons, List.map_nil, hs, hy, hr]
  exact hK _ _ (h v' w' h2 h3)
end Go.Proofs.Ytfdiedcleggfnaa
