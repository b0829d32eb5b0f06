/- What the law does to lists: written over, marks behind. -/
import Derived.Test.YtfdiedcleggfnaaApp
namespace Go.Proofs.Ytfdiedcleggfnaa
open Go.RowKit Go.Sort

theorem Own.cellset {w : World} {P : Nat → Prop} {e : TypeId} {sz n c g : Nat} {cs : List Value} (h : Own w P e sz (.slice (some ⟨g, 0, none⟩) n c) n cs) (j : Nat) (hj : j < n * sz) (v : Value) :
    Own (w.setCell ⟨g, j, none⟩ v) P e sz (.slice (some ⟨g, 0, none⟩) n c) n (cs.set j v) := by
  refine ⟨⟨by rw [List.length_set]; exact h.1.1, ?_⟩, h.2⟩
  rcases h.1.2 with ⟨h1, _⟩ | ⟨k, cap, cur, hv, hb, hh, h1, h2, h3, h4⟩
  · cases h1
  · cases hv
    refine .inr ⟨g, c, cur.setIfInBounds j v, rfl, hb, ?_, h1, h2, by simpa using h3, ?_⟩
    · simp only [World.setCell, Array.getElem?_modify]; simp [hh]
    · rw [Array.toList_setIfInBounds, List.take_set, h4]
theorem Own.cellAt {w : World} {P : Nat → Prop} {e : TypeId} {sz n c g : Nat} {cs : List Value} (h : Own w P e sz (.slice (some ⟨g, 0, none⟩) n c) n cs) (j : Nat) (hj : j < n * sz) :
    ∃ u, w.cell? ⟨g, j, none⟩ = some u ∧ w.frozen? ⟨g, j, none⟩ = false := by
  rcases h.1.2 with ⟨h1, _⟩ | ⟨k, cap, cur, hv, hb, hh, h1, h2, h3, h4⟩
  · cases h1
  · cases hv
    have hlt : j < cur.size := by rw [h3]; have := Nat.mul_le_mul_right sz h1; omega
    refine ⟨cur[j], ?_, by simp [World.frozen?, hh]⟩
    rw [cell_of_row w g j cur e (0, 0) hh]
    exact Array.getElem?_eq_getElem hlt
theorem Own.some_ {w : World} {P : Nat → Prop} {e : TypeId} {sz n c : Nat} {A : Option Addr} {cs : List Value} (h : Own w P e sz (.slice A n c) n cs) (hn : 0 < n) : ∃ g, A = some ⟨g, 0, none⟩ ∧ P g ∧ g < w.heap.size := by
  rcases h.1.2 with ⟨_, h0⟩ | ⟨k, cap, cur, hv, hb, hh, _⟩
  · omega
  · cases hv; exact ⟨k, rfl, h.2 k rfl, lt_of_heap hh⟩
theorem set_dots (d : Dot) : ∀ (xs : List Dot) (i : Nat), i < xs.length → (((xs.map dotV).flatten.set (i * 2) (.int .u32 d.a)).set (i * 2 + 1) (.int .u64 d.c)) = ((xs.set i d).map dotV).flatten
  | [], i, h => by simp at h
  | x :: xs, 0, _ => by simp [dotV]
  | x :: xs, i + 1, h => by
    have ih := set_dots d xs i (by simpa using h)
    simp only [List.map_cons, List.flatten_cons, List.set_cons_succ]
    rw [← ih]
    rw [show (i + 1) * 2 = i * 2 + 1 + 1 by omega]
    simp [dotV]
theorem set_sibs (x : Sib) : ∀ (xs : List Sib) (i : Nat), i < xs.length → (((((xs.map sibV).flatten.set (i * 4) (.int .u32 x.d.a)).set (i * 4 + 1) (.int .u64 x.d.c)).set (i * 4 + 2) (.bool x.g)).set (i * 4 + 3) (.string x.v)) = ((xs.set i x).map sibV).flatten
  | [], i, h => by simp at h
  | y :: xs, 0, _ => by simp [sibV]
  | y :: xs, i + 1, h => by
    have ih := set_sibs x xs i (by simpa using h)
    simp only [List.map_cons, List.flatten_cons, List.set_cons_succ]
    rw [← ih]
    rw [show (i + 1) * 4 = i * 4 + 1 + 1 + 1 + 1 by omega]
    simp [sibV]
theorem wrap32_wf (x : Int) : 0 ≤ IntKind.u32.wrap x ∧ IntKind.u32.wrap x ≤ 4294967295 := by rw [IntKind.wrap_u32]; omega

/-- What 'over' leaves: the same lists with other elements. -/
def OverPost (P1 P2 : Nat → Prop) (A B : Option Addr) (n c m d : Nat) (w : World) (e : Ending) (w' : World) : Prop :=
  e = .returned (.tuple #[]) ∧ ∃ (xs : List Dot) (ys : List Sib), xs.length = n ∧ ys.length = m ∧ (∀ x ∈ xs, dotWf x) ∧ (∀ y ∈ ys, sibWf y) ∧
    Own w' P1 50 2 (.slice A n c) n ((xs.map dotV).flatten) ∧ Own w' P2 145 4 (.slice B m d) m ((ys.map sibV).flatten) ∧ Kp (fun k => P1 k ∨ P2 k) w w'

set_option maxRecDepth 100000 in
set_option maxHeartbeats 2000000 in
theorem lawOver (P1 P2 : Nat → Prop) (A B : Option Addr) (c d n m : Nat) (xs : List Dot) (ys : List Sib) (w : World) (hn : xs.length = n) (hm : ys.length = m) (hw1 : ∀ x ∈ xs, dotWf x) (hw2 : ∀ y ∈ ys, sibWf y)
    (hA : Own w P1 50 2 (.slice A n c) n ((xs.map dotV).flatten)) (hB : Own w P2 145 4 (.slice B m d) m ((ys.map sibV).flatten)) (hd : ∀ k, P1 k → ¬ P2 k) (hP : ∀ k, P1 k ∨ P2 k → k < w.heap.size)
    (hn9 : n ≤ 4611686018427387904) (hm9 : m ≤ 4611686018427387904) :
    Calls Try.prog 21 #[.agg #[.slice A n c, .slice B m d]] w (OverPost P1 P2 A B n c m d w) := by
  have b0 := Blk.new w #[.slice A n c, .slice B m d] 25
  have hA0 := hA.alloc (.cells #[.slice A n c, .slice B m d] 25)
  have hB0 := hB.alloc (.cells #[.slice A n c, .slice B m d] 25)
  have hP1 : ¬ P1 w.heap.size := fun h => by have := hP _ (.inl h); omega
  have hP2 : ¬ P2 w.heap.size := fun h => by have := hP _ (.inr h); omega
  go_enter Try.func21, Try.ntmps21
  go_wp2
  go_loopw [2] (fun i W => ∃ (k : Nat) (xs : List Dot), i = .int .i64 k ∧ k ≤ n ∧ xs.length = n ∧ Hid (∀ x ∈ xs, dotWf x) ∧ Own W P1 50 2 (.slice A n c) n ((xs.map dotV).flatten) ∧
    Own W P2 145 4 (.slice B m d) m ((ys.map sibV).flatten) ∧ Blk W w.heap.size #[.slice A n c, .slice B m d] 25 ∧ Kp (fun k => P1 k ∨ P2 k) w W) (fun i _ => n - (intOf i).toNat)
  case atStart => exact ⟨0, xs, rfl, Nat.zero_le _, hn, hw1, hA0, hB0, b0, (Kp.refl _ w).alloc _⟩
  case round =>
    clear hA0 hB0 b0
    obtain ⟨k, xs, rfl, hk, hl, hwf, oA, oB, bk, hK⟩ := hrel
    have c0 := bk.c 0
    have c1 := bk.c 1
    dsimp at c0 c1
    by_cases hlt : k < n
    · obtain ⟨g, rfl, hg, hgl⟩ := oA.some_ (by omega)
      obtain ⟨u0, d0, f0⟩ := oA.cellAt (k * 2) (by omega)
      obtain ⟨u1, d1, f1⟩ := oA.cellAt (k * 2 + 1) (by omega)
      have q1 : (0 : Int) ≤ (k : Int) := by omega
      have q2 : (k : Int) < (n : Int) := by omega
      have HL := Lib.hid hl
      clear hl
      go_wp2
      go_roundw
      case rel =>
        refine ⟨k + 1, xs.set k ⟨(500 + (k : Int)) % 4294967296, 9⟩, by go_num, by omega, by rw [List.length_set]; exact HL.out, ?_, ?_, ?_, ?_, ?_⟩
        · intro x hx
          rcases List.mem_or_eq_of_mem_set hx with hx | hx
          · exact hwf x hx
          · subst hx; exact ⟨by simp only; omega, by simp only; omega, by simp, by simp⟩
        · have := (oA.cellset (k * 2) (by omega) (.int .u32 ((500 + (k : Int)) % 4294967296))).cellset (k * 2 + 1) (by omega) (.int .u64 9)
          rwa [set_dots ⟨(500 + (k : Int)) % 4294967296, 9⟩ xs k (by rw [HL.out]; exact hlt)] at this
        · exact (oB.set (hd g hg) _).set (hd g hg) _
        · exact (bk.setO _ _ (fun e => hP1 (e ▸ hg))).setO _ _ (fun e => hP1 (e ▸ hg))
        · exact Kp.set (Kp.set hK (.inl (.inl hg)) _) (.inl (.inl hg)) _
      case measure => simp [intOf]; omega
    · obtain rfl : k = n := by omega
      go_wp2
      go_loopw [3] (fun i W => ∃ (j : Nat) (ys : List Sib), i = .int .i64 j ∧ j ≤ m ∧ ys.length = m ∧ Hid (∀ y ∈ ys, sibWf y) ∧ Own W P1 50 2 (.slice A k c) k ((xs.map dotV).flatten) ∧
        Own W P2 145 4 (.slice B m d) m ((ys.map sibV).flatten) ∧ Blk W w.heap.size #[.slice A k c, .slice B m d] 25 ∧ Kp (fun k => P1 k ∨ P2 k) w W) (fun i _ => m - (intOf i).toNat)
      case atStart => exact ⟨0, ys, rfl, Nat.zero_le _, hm, hw2, oA, oB, bk, hK⟩
      case round =>
        clear oB bk hK c0 c1 oA
        obtain ⟨j, zs, rfl, hj, hlz, hwz, oA, oB, bk, hK⟩ := hrel
        have c0 := bk.c 0
        have c1 := bk.c 1
        dsimp at c0 c1
        by_cases hlt : j < m
        · obtain ⟨g, rfl, hg, hgl⟩ := oB.some_ (by omega)
          have hg1 : ¬ P1 g := fun h => hd g h hg
          have hg0 : w.heap.size ≠ g := fun e => hP2 (e ▸ hg)
          obtain ⟨u0, d0, f0⟩ := oB.cellAt (j * 4) (by omega)
          obtain ⟨u1, d1, f1⟩ := oB.cellAt (j * 4 + 1) (by omega)
          obtain ⟨u2, d2, f2⟩ := oB.cellAt (j * 4 + 2) (by omega)
          obtain ⟨u3, d3, f3⟩ := oB.cellAt (j * 4 + 3) (by omega)
          have q1 : (0 : Int) ≤ (j : Int) := by omega
          have q2 : (j : Int) < (m : Int) := by omega
          have HLZ := Lib.hid hlz
          have HL := Lib.hid hl
          clear hlz hl
          go_wp2
          go_roundw
          case rel =>
            refine ⟨j + 1, zs.set j ⟨⟨(500 + (j : Int)) % 4294967296, 3⟩, false, ⟨#[111, 118, 101, 114]⟩⟩, by go_num, by omega, by rw [List.length_set]; exact HLZ.out, ?_, ?_, ?_, ?_, ?_⟩
            · intro x hx
              rcases List.mem_or_eq_of_mem_set hx with hx | hx
              · exact hwz x hx
              · subst hx; exact ⟨⟨by simp only; omega, by simp only; omega, by simp, by simp⟩, show 4 ≤ 140737488351232 by decide⟩
            · exact (((oA.set hg1 _).set hg1 _).set hg1 _).set hg1 _
            · have := (((oB.cellset (j * 4) (by omega) (.int .u32 ((500 + (j : Int)) % 4294967296))).cellset (j * 4 + 1) (by omega) (.int .u64 3)).cellset (j * 4 + 2) (by omega) (.bool false)).cellset (j * 4 + 3) (by omega) (.string ⟨#[111, 118, 101, 114]⟩)
              rwa [set_sibs ⟨⟨(500 + (j : Int)) % 4294967296, 3⟩, false, ⟨#[111, 118, 101, 114]⟩⟩ zs j (by rw [HLZ.out]; exact hlt)] at this
            · exact (((bk.setO _ _ hg0).setO _ _ hg0).setO _ _ hg0).setO _ _ hg0
            · exact Kp.set (Kp.set (Kp.set (Kp.set hK (.inl (.inr hg)) _) (.inl (.inr hg)) _) (.inl (.inr hg)) _) (.inl (.inr hg)) _
          case measure => simp [intOf]; omega
        · obtain rfl : j = m := by omega
          go_wp2
          go_end0
          exact ⟨rfl, xs, zs, hl, hlz, hwf, hwz, oA, oB, hK⟩
end Go.Proofs.Ytfdiedcleggfnaa
