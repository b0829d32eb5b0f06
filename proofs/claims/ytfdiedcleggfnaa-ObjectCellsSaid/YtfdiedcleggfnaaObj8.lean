/- What the law does to an object's lists: spoil. -/
import Derived.Test.YtfdiedcleggfnaaObj7
import Derived.Test.YtfdiedcleggfnaaLaw3
namespace Go.Proofs.Ytfdiedcleggfnaa
open Go.RowKit Go.Sort

set_option maxRecDepth 100000 in
set_option maxHeartbeats 2000000 in
theorem law13Spoil (P1 P2 : Nat → Prop) (k mark : ByteArray) (A B : Option Addr) (c d n m : Nat) (cs1 cs2 : List Value) (w : World)
    (hA : Own w P1 50 2 (.slice A n c) n cs1) (hB : Own w P2 145 4 (.slice B m d) m cs2) (hd : ∀ k, P1 k → ¬ P2 k)
    (hn9 : n ≤ 1000000) (hm9 : m ≤ 1000000) :
    Calls Try.prog 31 #[.agg #[.string k, .slice A n c, .slice B m d], .string mark] w fun e w' => e = .returned (.int .i64 ((n : Int) + m + 40)) ∧ Kp (fun k => P1 k ∨ P2 k) w w' := by
  have hA0 := hA.alloc (.cells #[.string k, .slice A n c, .slice B m d] 37)
  have hB0 := hB.alloc (.cells #[.string k, .slice A n c, .slice B m d] 37)
  have hK0 := (Kp.refl (fun k => P1 k ∨ P2 k) w).alloc (.cells #[.string k, .slice A n c, .slice B m d] 37)
  obtain ⟨i0, hi, hz0, hz1, hz2⟩ := info_parts infoDot
  obtain ⟨i1, hi1, hy0, hy1, hy2⟩ := info_parts infoSib
  have hr : (n : Int) + m + 40 = (n + 20 : Nat) + (m + 20 : Nat) := by omega
  have HR := Lib.hid hr
  clear hr
  rw [HR.out]
  go_enter Try.func31, Try.ntmps31
  go_wp2
  go_loopw [7] (fun i W => ∃ (k : Nat) (cs1 : List Value), i = .int .i64 k ∧ k ≤ n ∧ Own W P1 50 2 (.slice A n c) n cs1 ∧ Own W P2 145 4 (.slice B m d) m cs2 ∧ Kp (fun k => P1 k ∨ P2 k) w W) (fun i _ => n - (intOf i).toNat)
  case atStart => exact ⟨0, _, rfl, Nat.zero_le _, hA0, hB0, hK0⟩
  case round =>
    clear hA0 hB0 hK0
    obtain ⟨k, cs1, rfl, hk, oA, oB, hK⟩ := hrel
    by_cases hlt : k < n
    · obtain ⟨g, rfl, hg, hgl⟩ := oA.some_ (by omega)
      obtain ⟨u0, d0, f0⟩ := oA.cellAt (k * 2) (by omega)
      obtain ⟨u1, d1, f1⟩ := oA.cellAt (k * 2 + 1) (by omega)
      have q1 : (0 : Int) ≤ (k : Int) := by omega
      have q2 : (k : Int) < (n : Int) := by omega
      go_wp2
      go_roundw
      case rel =>
        exact ⟨k + 1, _, by go_num, by omega, (oA.cellset (k * 2) (by omega) (.int .u32 8)).cellset (k * 2 + 1) (by omega) (.int .u64 2251799813685248), (oB.set (hd g hg) _).set (hd g hg) _, Kp.set (Kp.set hK (.inl (.inl hg)) _) (.inl (.inl hg)) _⟩
      case measure => simp [intOf]; omega
    · obtain rfl : k = n := by omega
      go_wp2
      go_loopw [8] (fun i W => ∃ (j : Nat) (cs2 : List Value), i = .int .i64 j ∧ j ≤ m ∧ Own W P1 50 2 (.slice A k c) k cs1 ∧ Own W P2 145 4 (.slice B m d) m cs2 ∧ Kp (fun k => P1 k ∨ P2 k) w W) (fun i _ => m - (intOf i).toNat)
      case atStart => exact ⟨0, _, rfl, Nat.zero_le _, oA, oB, hK⟩
      case round =>
        clear oA oB hK
        obtain ⟨j, cs2, rfl, hj, oA, oB, hK⟩ := hrel
        by_cases hlt : j < m
        · obtain ⟨g, rfl, hg, hgl⟩ := oB.some_ (by omega)
          have hg1 : ¬ P1 g := fun h => hd g h hg
          obtain ⟨u0, d0, f0⟩ := oB.cellAt (j * 4) (by omega)
          obtain ⟨u1, d1, f1⟩ := oB.cellAt (j * 4 + 1) (by omega)
          obtain ⟨u2, d2, f2⟩ := oB.cellAt (j * 4 + 2) (by omega)
          obtain ⟨u3, d3, f3⟩ := oB.cellAt (j * 4 + 3) (by omega)
          have q1 : (0 : Int) ≤ (j : Int) := by omega
          have q2 : (j : Int) < (m : Int) := by omega
          go_wp2
          go_roundw
          case rel =>
            exact ⟨j + 1, _, by go_num, by omega, (((oA.set hg1 _).set hg1 _).set hg1 _).set hg1 _, (((oB.cellset (j * 4) (by omega) (.int .u32 0)).cellset (j * 4 + 1) (by omega) (.int .u64 0)).cellset (j * 4 + 2) (by omega) (.bool false)).cellset (j * 4 + 3) (by omega) (.string mark), Kp.set (Kp.set (Kp.set (Kp.set hK (.inl (.inr hg)) _) (.inl (.inr hg)) _) (.inl (.inr hg)) _) (.inl (.inr hg)) _⟩
          case measure => simp [intOf]; omega
        · obtain rfl : j = m := by omega
          go_wp2
          go_loopw [5, 9] (fun a i W => ∃ (q : Nat) (A' : Option Addr) (n' c' : Nat) (cs1 : List Value), i = .int .i64 q ∧ q ≤ 20 ∧ a = .slice A' n' c' ∧ n' = k + q ∧
            Own W (fun k => P1 k ∨ w.heap.size ≤ k) 50 2 (.slice A' n' c') n' cs1 ∧ Own W P2 145 4 (.slice B j d) j cs2 ∧ Kp (fun k => P1 k ∨ P2 k) w W) (fun _ i _ => 20 - (intOf i).toNat)
          case atStart => exact ⟨0, A, k, c, _, rfl, by omega, rfl, rfl, oA.mono (fun _ _ h => .inl h), oB, hK⟩
          case round =>
            clear oA oB hK
            obtain ⟨q, A', n', c', cs1, rfl, hq, rfl, hn', oA, oB, hKW⟩ := hrel
            have hSW := hKW.size
            have HN := Lib.hid hn'
            have hn2 : n' ≤ 1000070 := by omega
            clear hn'
            by_cases hlt : q < 20
            · go_wp2_with (at_builtin; refine wpList_append_lies _ rfl (.tmp 42) (.tmp 44) 22 rfl 0 50 i0 (.agg #[.int .u32 0, .int .u64 0]) 2 16 Try.underlying22 hi hz0 hz1 hz2 rfl (by decide) _ _ _ rfl (oA.alloc _).1 ⟨wr.heap.size, 0, none⟩ 1 1 [.int .u32 8, .int .u64 2251799813685248] rfl rfl (World.news_of_block (heap_alloc_new wr _)) (by simp [Value.oneCell']) (by decide) ?c3 ?c4 (Nat.zero_le _) _ rfl ?_; (case c3 => unfold maxLen; omega); (case c4 => omega); intro g1 cap w3 hown hgrow hat hlt; have oA3 := own_step (B := w.heap.size) oA hat hSW hown; have oB3 := own_keep oB oA (by decide) hgrow; have K3 : Kp (fun k => P1 k ∨ P2 k) w w3 := (hKW.alloc _).grown hgrow (fun k hk => (oA.2 k hk).elim (fun h => .inl (.inl h)) .inr))
              go_roundw
              case rel =>
                exact ⟨q + 1, _, _, _, _, by go_num, by omega, rfl, by rw [HN.out]; omega, oA3.mono (fun i _ h => by rcases h with (h | h) | h; exact .inl h; exact .inr h; exact .inr h), oB3, K3⟩
              case measure => simp [intOf]; omega
            · go_wp2
              go_loopw [6, 10] (fun b i W => ∃ (q : Nat) (B' : Option Addr) (m' d' : Nat) (cs2 : List Value), i = .int .i64 q ∧ q ≤ 20 ∧ b = .slice B' m' d' ∧ m' = j + q ∧
                Own W (fun k => P2 k ∨ w.heap.size ≤ k) 145 4 (.slice B' m' d') m' cs2 ∧ Kp (fun k => P1 k ∨ P2 k) w W) (fun _ i _ => 20 - (intOf i).toNat)
              case atStart => exact ⟨0, B, j, d, _, rfl, by omega, rfl, rfl, oB.mono (fun _ _ h => .inl h), hKW⟩
              case round =>
                clear oA oB hKW hSW
                obtain ⟨r, B', m', d', cs2, rfl, hr, rfl, hm', oB, hKW⟩ := hrel
                have hSW := hKW.size
                have HM := Lib.hid hm'
                have hm2 : m' ≤ 1000070 := by omega
                clear hm'
                by_cases hlt : r < 20
                · go_wp2_with (at_builtin; refine wpList_append_lies _ rfl (.tmp 50) (.tmp 53) 23 rfl 0 145 i1 (.agg #[.int .u32 0, .int .u64 0, .bool false, .string ⟨#[]⟩]) 4 40 Try.underlying23 hi1 hy0 hy1 hy2 rfl (by decide) _ _ _ rfl (oB.alloc _).1 ⟨wr.heap.size, 0, none⟩ 1 1 [.int .u32 0, .int .u64 0, .bool false, .string mark] rfl rfl (World.news_of_block (heap_alloc_new wr _)) (by simp [Value.oneCell']) (by decide) ?c5 ?c6 (Nat.zero_le _) _ rfl ?_; (case c5 => unfold maxLen; omega); (case c6 => omega); intro g1 cap w3 hown hgrow hat hlt; have oB3 := own_step (B := w.heap.size) oB hat hSW hown; have K3 : Kp (fun k => P1 k ∨ P2 k) w w3 := (hKW.alloc _).grown hgrow (fun k hk => (oB.2 k hk).elim (fun h => .inl (.inr h)) .inr))
                  go_roundw
                  case rel =>
                    exact ⟨r + 1, _, _, _, _, by go_num, by omega, rfl, by rw [HM.out]; omega, oB3.mono (fun i _ h => by rcases h with (h | h) | h; exact .inl h; exact .inr h; exact .inr h), K3⟩
                  case measure => simp [intOf]; omega
                · have hr20 : r = 20 := by omega
                  have e1 : n' = k + 20 := by have := HN.out; omega
                  have e2 : m' = j + 20 := by have := HM.out; omega
                  clear HN HM
                  subst e1 e2
                  go_wp2
                  go_ret
                  exact ⟨rfl, hKW⟩
end Go.Proofs.Ytfdiedcleggfnaa
