/- The Writer's other methods: NewWriter, Raw, Text, Told; and the bytes of vectors and states by the program's own text. -/
import Derived.Test.YtfdiedcleggfnaaEnc
namespace Go.Proofs.Ytfdiedcleggfnaa
open Go.RowKit Go.Sort
attribute [local go_sem] grow_cell

theorem newWriter (w : World) : Calls Try.prog 99 #[] w fun e w' => ∃ g, e = .returned (.pointer (some ⟨g, 0, none⟩)) ∧ w.heap.size ≤ g ∧ IsW w' (fun k => k = g) g [] ∧ Below w.heap.size w w' := by
  have HF : ∀ e w', (e = Ending.returned (.pointer (some ⟨w.heap.size, 0, none⟩)) ∧ w' = w.alloc (.cells #[.slice none 0 0] 244)) → (∃ g, e = .returned (.pointer (some ⟨g, 0, none⟩)) ∧ w.heap.size ≤ g ∧ IsW w' (fun k => k = g) g [] ∧ Below w.heap.size w w') := by
    rintro e w' ⟨rfl, rfl⟩
    refine ⟨w.heap.size, rfl, Nat.le_refl _, ⟨rfl, fun k hk => by subst hk; simp, .slice none 0 0, heap_alloc_new w _, Own.nil _ _ _ _⟩, (Below.refl _ _).alloc (Nat.le_refl _) _⟩
  refine Calls.mono ?_ HF
  clear HF
  go_enter Try.func99, Try.ntmps99
  go_wp2
  go_ret
  exact ⟨rfl, rfl⟩

/-- A step that may leave the row as it was (nothing appended to nil). -/
theorem IsW.step' {w w0 w1 : World} {P : Nat → Prop} {g n n' c c' : Nat} {A A' : Option Addr} {bs bs' : List UInt8} (hPg : P g) (hP : ∀ k, P k → k < w.heap.size)
    (hg : w.heap[g]? = some (.cells #[.slice A n c] 244 (0, 0))) (hv : Own w (fun k => P k ∧ k ≠ g) 5 1 (.slice A n c) bs.length (vals bs))
    (hw0 : Kp (fun _ => False) w w0) (hown : w1.ownsRow 0 5 1 (.slice A' n' c') bs'.length (vals bs'))
    (hgrow : w0.grownBy w1 (Value.ownBlock (.slice A n c))) (hat : Value.ownBlock (.slice A' n' c') = Value.ownBlock (.slice A n c) ∨ Value.ownBlock (.slice A' n' c') = some w0.heap.size) :
    w1.cell? ⟨g, 0, none⟩ = some (.slice A n c) ∧ w1.frozen? ⟨g, 0, none⟩ = false ∧
    IsW (w1.setCell ⟨g, 0, none⟩ (.slice A' n' c')) (Ext P w (w1.setCell ⟨g, 0, none⟩ (.slice A' n' c'))) g bs' ∧
    Kp P w (w1.setCell ⟨g, 0, none⟩ (.slice A' n' c')) := by
  have hgl := lt_of_heap hg
  have hne : ∀ k, Value.ownBlock (.slice A n c) = some k → P k ∧ k ≠ g := hv.2
  have h1 : w1.heap[g]? = some (.cells #[.slice A n c] 244 (0, 0)) :=
    ((hgrow.block g (Nat.lt_of_lt_of_le hgl hw0.size) (fun e => (hne g e.symm).2 rfl)).trans (hw0.block g hgl id)).trans hg
  have hk : Kp P w w1 := (hw0.mono (fun _ _ => False.elim)).grown hgrow (fun k e => .inl (hne k e).1)
  have hsz : ∀ u, (w1.setCell ⟨g, 0, none⟩ u).heap.size = w1.heap.size := fun u => by simp [World.setCell]
  unfold Ext
  rw [hsz]
  refine ⟨by rw [cell_of_row w1 g 0 _ _ _ h1]; rfl, by simp [World.frozen?, h1], ⟨.inl hPg, ?_, .slice A' n' c', ?_, ?_⟩, hk.set (.inl hPg) _⟩
  · intro k hk'
    have hs := hk.size
    rcases hk' with hk' | hk'
    · have := hP k hk'; rw [hsz]; omega
    · rw [hsz]; exact hk'.2
  · simp only [World.setCell, Array.getElem?_modify]
    simp [h1]
  · refine Own.set (P := fun k => (P k ∨ w.heap.size ≤ k ∧ k < w1.heap.size) ∧ k ≠ g) ⟨hown, fun k e => ?_⟩ (fun h => h.2 rfl) _
    have hlt : k < w1.heap.size := (hown.lt k e).2
    rcases hat with h | h
    · rw [h] at e; exact ⟨.inl (hne k e).1, (hne k e).2⟩
    · rw [h] at e
      have := hw0.size
      injection e with e
      exact ⟨.inr ⟨by omega, hlt⟩, by omega⟩

set_option maxRecDepth 100000 in
set_option maxHeartbeats 2000000 in
theorem writerRaw (P : Nat → Prop) (g : Nat) (bs : List UInt8) (s : ByteArray) (w : World) (h : IsW w P g bs) (hl : bs.length < 1000000000) (hs : s.size < 1000000000) :
    Calls Try.prog 178 #[.pointer (some ⟨g, 0, none⟩), .string s] w (WPost P g (bs ++ s.data.toList) w) := by
  obtain ⟨hPg, hP, A, c, hg, hv, hcell, hfr, hgl⟩ := h.open_
  obtain ⟨i0, hi, hz0, hz1, hz2⟩ := info_parts infoU8
  have HG := Lib.hid hg
  clear hg h
  go_enter Try.func178, Try.ntmps178
  go_wp2_with (at_builtin; refine wpList_append_str_at rfl (.tmp 10) (.tmp 11) 210 9 rfl 5 i0 Try.underlying210 Try.underlying9 hi hz0 hz1 hz2 _ _ _ rfl hv.1 s rfl ?c3 ?c4 ?_; (case c3 => unfold maxLen; omega); (case c4 => omega); intro v' w1 hown hgrow hat; obtain ⟨A', c', rfl⟩ := Own.form (P := fun _ => True) ⟨hown, fun _ _ => trivial⟩; obtain ⟨hc1, hf1, hw2, hk2⟩ := IsW.step' (bs' := bs ++ s.data.toList) hPg hP HG.out hv (Kp.refl _ w) (by rw [vals_append, ← strCells_vals, List.length_append, Array.length_toList]; exact hown) hgrow hat; clear hown hgrow hat)
  go_end0
  exact ⟨rfl, hw2, hk2⟩

set_option maxRecDepth 100000 in
set_option maxHeartbeats 2000000 in
theorem writerText (P : Nat → Prop) (g : Nat) (bs : List UInt8) (s : ByteArray) (w : World) (h : IsW w P g bs) (hl : bs.length + 10 < 1000000000) (hs : s.size < 1000000000) :
    Calls Try.prog 103 #[.pointer (some ⟨g, 0, none⟩), .string s] w (WPost P g (bs ++ (uintB s.size ++ s.data.toList)) w) := by
  have HL := uintB_len10 s.size (by omega)
  go_enter Try.func103, Try.ntmps103
  go_wp2_with (first | (go_at_call 101; (with_reducible refine (writerUint P g bs _ s.size rfl (by omega) w h (by omega)).mono ?_); rintro e w2 ⟨rfl, hw2, hk2⟩) | (go_at_call 178; (with_reducible refine (writerRaw _ g (bs ++ uintB s.size) s w2 hw2 (by rw [List.length_append]; omega) hs).mono ?_); rintro e w3 ⟨rfl, hw3, hk3⟩))
  go_end0
  refine ⟨rfl, ?_, hk2.ext hk3⟩
  rw [← List.append_assoc]
  exact hw3.ext hk2.size hk3.size

set_option maxRecDepth 100000 in
set_option maxHeartbeats 2000000 in
theorem writerTold (P : Nat → Prop) (g : Nat) (bs : List UInt8) (w : World) (h : IsW w P g bs) :
    Calls Try.prog 104 #[.pointer (some ⟨g, 0, none⟩)] w fun e w' => e = .returned (.string (strB bs)) ∧ w = w' := by
  obtain ⟨hPg, hP, A, c, hg, hv, hcell, hfr, hgl⟩ := h.open_
  have hcv := run_told hv 210 9 Try.underlying210 Try.underlying5 Try.underlying9
  clear hg h
  go_enter Try.func104, Try.ntmps104
  go_wp2
  go_ret
  exact ⟨rfl, rfl⟩
end Go.Proofs.Ytfdiedcleggfnaa
