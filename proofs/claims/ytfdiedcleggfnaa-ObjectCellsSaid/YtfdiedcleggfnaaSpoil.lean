/- What the law does to lists, on: spoil. -/
import Derived.Test.YtfdiedcleggfnaaOver
namespace Go.Proofs.Ytfdiedcleggfnaa
open Go.RowKit Go.Sort

/-- A row of another type's is kept when one grows. -/
theorem own_keep {W W' : World} {o : Obj} {P Q : Nat → Prop} {e e' : TypeId} {sz sz' n n' : Nat} {v u : Value} {cs cs' : List Value} (h : Own W P e sz v n cs) (hu : Own W Q e' sz' u n' cs') (hne : e ≠ e')
    (hg : (W.alloc o).grownBy W' u.ownBlock) : Own W' P e sz v n cs := by
  have h1 := h.alloc o
  have hu1 := hu.alloc o
  refine ⟨⟨h1.1.1, ?_⟩, h1.2⟩
  rcases h1.1.2 with h0 | ⟨k, cap, cur, rfl, hb, hh, r⟩
  · exact .inl h0
  · refine .inr ⟨k, cap, cur, rfl, hb, (hg.block k (lt_of_heap hh) ?_).trans hh, r⟩
    intro e1
    rcases hu1.1.2 with ⟨rfl, _⟩ | ⟨k', cap', cur', rfl, hb', hh', r'⟩
    · simp [Value.ownBlock] at e1
    · have : k' = k := by simpa [Value.ownBlock, eq_comm] using e1
      subst this
      rw [hh'] at hh
      injection hh with hh; injection hh with _ h3
      exact hne h3.symm
theorem own_step {W w1 : World} {o : Obj} {P : Nat → Prop} {e : TypeId} {sz n n' c cap g1 m B : Nat} {A : Option Addr} {cs cs' : List Value} (hv : Own W P e sz (.slice A n c) n cs)
    (hat : Value.ownBlock (.slice A n c) = some g1 ∨ g1 = (W.alloc o).heap.size) (hB : B ≤ W.heap.size)
    (hown : w1.ownsRow 0 e sz (.slice (some ⟨g1, 0, none⟩) n' cap) m cs') : Own w1 (fun k => P k ∨ B ≤ k) e sz (.slice (some ⟨g1, 0, none⟩) n' cap) m cs' := by
  refine ⟨hown, fun k hk => ?_⟩
  have : g1 = k := by simpa [Value.ownBlock] using hk
  subst this
  rcases hat with h | h
  · exact .inl (hv.2 _ h)
  · right; simp at h; omega

set_option maxRecDepth 100000 in
set_option maxHeartbeats 2000000 in
theorem lawSpoil (P1 P2 : Nat → Prop) (A B : Option Addr) (c d n m : Nat) (xs : List Dot) (ys : List Sib) (w : World) (hn : xs.length = n) (hm : ys.length = m) (hw1 : ∀ x ∈ xs, dotWf x) (hw2 : ∀ y ∈ ys, sibWf y)
    (hA : Own w P1 50 2 (.slice A n c) n ((xs.map dotV).flatten)) (hB : Own w P2 145 4 (.slice B m d) m ((ys.map sibV).flatten)) (hd : ∀ k, P1 k → ¬ P2 k) (hP : ∀ k, P1 k ∨ P2 k → k < w.heap.size)
    (hn9 : n ≤ 1000000) (hm9 : m ≤ 1000000) :
    Calls Try.prog 114 #[.agg #[.slice A n c, .slice B m d]] w fun e w' => e = .returned (.tuple #[]) ∧ Kp (fun k => P1 k ∨ P2 k) w w' := by
  have b0 := Blk.new w #[.slice A n c, .slice B m d] 25
  have hA0 := hA.alloc (.cells #[.slice A n c, .slice B m d] 25)
  have hB0 := hB.alloc (.cells #[.slice A n c, .slice B m d] 25)
  have hP1 : ¬ (P1 w.heap.size ∨ P2 w.heap.size) := fun h => by have := hP _ h; omega
  have hO := lawOver P1 P2 A B c d n m xs ys _ hn hm hw1 hw2 hA0 hB0 hd (fun k h => by have := hP k h; simp; omega) (by omega) (by omega)
  unfold OverPost at hO
  have HO := Lib.hid hO
  clear hO hA0 hB0
  obtain ⟨i0, hi, hz0, hz1, hz2⟩ := info_parts infoDot
  obtain ⟨i1, hi1, hy0, hy1, hy2⟩ := info_parts infoSib
  go_enter Try.func114, Try.ntmps114
  go_wp2_with (go_at_call 21; refine HO.out.mono ?_; rintro e w2 ⟨rfl, xs2, ys2, hl1, hl2, hwx, hwy, oA, oB, hK⟩; have b2 := b0.kp hK hP1; have c0 := b2.c 0; have c1 := b2.c 1; dsimp at c0; dsimp at c1)
  have hK2 : Kp (fun k => P1 k ∨ P2 k) w w2 := ((Kp.refl _ w).alloc _).trans hK (fun _ _ h => h)
  have hS2 := hK2.size
  go_loopw [2, 3, 4] (fun a b i W => ∃ (k : Nat) (A' B' : Option Addr) (n' m' c' d' : Nat) (cs1 cs2 : List Value), i = .int .i64 k ∧ k ≤ 70 ∧ a = .slice A' n' c' ∧ b = .slice B' m' d' ∧ n' = n + k ∧ m' = m + k ∧
    Own W (fun k => P1 k ∨ w.heap.size ≤ k) 50 2 (.slice A' n' c') n' cs1 ∧ Own W (fun k => P2 k ∨ w.heap.size ≤ k) 145 4 (.slice B' m' d') m' cs2 ∧ Kp (fun k => P1 k ∨ P2 k) w W) (fun _ _ i _ => 70 - (intOf i).toNat)
  case atStart => exact ⟨0, A, B, n, m, c, d, _, _, rfl, by omega, rfl, rfl, rfl, rfl, oA.mono (fun _ _ h => .inl h), oB.mono (fun _ _ h => .inl h), hK2⟩
  case round =>
    clear oA oB c0 c1 b2
    obtain ⟨k, A', B', n', m', c', d', cs1, cs2, rfl, hk, rfl, rfl, hn', hm', oA, oB, hKW⟩ := hrel
    have hSW := hKW.size
    have HN := Lib.hid hn'
    have HM := Lib.hid hm'
    have hn2 : n' ≤ 1000070 := by omega
    have hm2 : m' ≤ 1000070 := by omega
    clear hn' hm'
    by_cases hlt : k < 70
    · go_wp2_with (first
        | (at_builtin; refine wpList_append_lies _ rfl (.tmp 15) (.tmp 17) 22 rfl 0 50 i0 (.agg #[.int .u32 0, .int .u64 0]) 2 16 Try.underlying22 hi hz0 hz1 hz2 rfl (by decide) _ _ _ rfl (oA.alloc _).1 ⟨wr.heap.size, 0, none⟩ 1 1 [.int .u32 8888, .int .u64 0] rfl rfl (World.news_of_block (heap_alloc_new wr _)) (by simp [Value.oneCell']) (by decide) ?c3 ?c4 (Nat.zero_le _) _ rfl ?_; (case c3 => unfold maxLen; omega); (case c4 => omega); intro g1 cap w3 hown hgrow hat hlt; have oA3 := own_step (B := w.heap.size) oA hat hSW hown; have oB3 := own_keep oB oA (by decide) hgrow; have K3 : Kp (fun k => P1 k ∨ P2 k) w w3 := (hKW.alloc _).grown hgrow (fun k hk => (oA.2 k hk).elim (fun h => .inl (.inl h)) .inr))
        | (at_builtin; refine wpList_append_lies _ rfl (.tmp 19) (.tmp 21) 23 rfl 0 145 i1 (.agg #[.int .u32 0, .int .u64 0, .bool false, .string ⟨#[]⟩]) 4 40 Try.underlying23 hi1 hy0 hy1 hy2 rfl (by decide) _ _ _ rfl (oB3.alloc _).1 ⟨w3.heap.size, 0, none⟩ 1 1 [.int .u32 0, .int .u64 0, .bool false, .string ⟨#[98, 101, 104, 105, 110, 100]⟩] rfl rfl (World.news_of_block (heap_alloc_new w3 _)) (by simp [Value.oneCell']) (by decide) ?c5 ?c6 (Nat.zero_le _) _ rfl ?_; (case c5 => unfold maxLen; omega); (case c6 => omega); intro g2 cap2 w4 hown2 hgrow2 hat2 hlt2; have oB4 := own_step (B := w.heap.size) oB3 hat2 K3.size hown2; have oA4 := own_keep oA3 oB3 (by decide) hgrow2; have K4 : Kp (fun k => P1 k ∨ P2 k) w w4 := (K3.alloc _).grown hgrow2 (fun k hk => (oB3.2 k hk).elim (fun h => .inl (.inr h)) .inr)))
      go_roundw
      case rel =>
        exact ⟨k + 1, _, _, _, _, _, _, _, _, by go_num, by omega, rfl, rfl, by rw [HN.out]; omega, by rw [HM.out]; omega, oA4.mono (fun i _ h => by rcases h with (h | h) | h; exact .inl h; exact .inr h; exact .inr h), oB4.mono (fun i _ h => by rcases h with (h | h) | h; exact .inl h; exact .inr h; exact .inr h), K4⟩
      case measure => simp [intOf]; omega
    · obtain rfl : k = 70 := by omega
      go_wp2
      go_end0
      exact ⟨rfl, hKW⟩
end Go.Proofs.Ytfdiedcleggfnaa
