/- What stands behind a text's bytes, walked: Fill of both sides. -/
import Derived.Test.YtfdiedcleggfnaaSha4
import Derived.Test.YtfdiedcleggfnaaBase2
import Derived.Test.YtfdiedcleggfnaaWriter
namespace Go.Proofs.Ytfdiedcleggfnaa
open Go.RowKit Go.Sort

theorem own_new {w' : World} {P : Nat → Prop} {g : Nat} {e : TypeId} {xs : List Value} (h : w'.heap[g]? = some (.cells xs.toArray e (0, 0))) (hP : P g) (hm : xs.length ≤ maxLen) : Own w' P e 1 (.slice (some ⟨g, 0, none⟩) xs.length xs.length) xs.length xs :=
  ⟨⟨by simp, .inr ⟨g, xs.length, xs.toArray, rfl, Nat.zero_le _, h, Nat.le_refl _, hm, by simp, by simp⟩⟩, fun k hk => by simp [Value.ownBlock] at hk; subst hk; exact hP⟩
def fillJ (j : Nat) : List UInt8 := 128 :: List.replicate j 0
theorem fillJ_len (j : Nat) : (fillJ j).length = j + 1 := by simp [fillJ]
theorem fillJ_succ (j : Nat) : fillJ (j + 1) = fillJ j ++ [0] := by simp [fillJ, List.replicate_succ']
def fillI (n i : Nat) : List UInt8 := fillJ (padN n - 1) ++ (List.range i).map fun i => UInt8.ofNat (8 * n / 2 ^ (56 - 8 * i))
theorem fillI_len (n i : Nat) : (fillI n i).length = padN n + i := by have := padN_bd n; simp [fillI, fillJ_len]; omega
theorem fillI_succ (n i : Nat) : fillI n (i + 1) = fillI n i ++ [UInt8.ofNat (8 * n / 2 ^ (56 - 8 * i))] := by simp [fillI, List.range_succ]
theorem fillI_8 (n : Nat) : fillI n 8 = fillB n := by simp [fillI, fillB, fillJ]

set_option maxRecDepth 100000 in
set_option maxHeartbeats 2000000 in
theorem refFill (n : Nat) (w : World) (hn : n ≤ 1099511627776) :
    Calls Try.prog 264 #[.int .u64 n] w fun e w' => ∃ (A : Option Addr) (c : Nat), e = .returned (.slice A (fillB n).length c) ∧ Own w' (fun k => w.heap.size ≤ k) 5 1 (.slice A (fillB n).length c) (fillB n).length (vals (fillB n)) ∧ Below w.heap.size w w' := by
  have hpad := padN_bd n
  go_enter Try.func264, Try.ntmps264
  go_wp2
  have h10 : (fillJ 0).length = 1 := rfl
  go_loopw [3] (fun u W => ∃ (A : Option Addr) (c j : Nat), u = .slice A (fillJ j).length c ∧ j + 1 ≤ padN n ∧ Own W (fun k => w.heap.size ≤ k) 5 1 (.slice A (fillJ j).length c) (fillJ j).length (vals (fillJ j)) ∧ Below w.heap.size w W) (fun u _ => 200 - (match u with | .slice _ k _ => k | _ => 0))
  case atStart => exact ⟨_, _, 0, rfl, hpad.1, own_new (xs := vals (fillJ 0)) (heap_alloc_new _ _) (Nat.le_refl _) (by decide), (Below.refl _ _).alloc (Nat.le_refl _) _⟩
  case round =>
    obtain ⟨A, c, j, rfl, hj, hv, hB⟩ := hrel
    obtain ⟨i0, hi, hz0, hz1, hz2⟩ := info_parts infoU8
    have hS := hB.size
    have hlj := fillJ_len j
    have HLJ := Lib.hid hlj
    have hl1 : 1 ≤ (fillJ j).length := by omega
    have hl2 : (fillJ j).length ≤ 64 := by omega
    by_cases hlt : j + 1 < padN n
    · as_aux_lemma =>
      have ht : (((n : Int) % 64 + ((fillJ j).length : Int) + 8) % 64 != 0) = true := by
        rw [hlj]; unfold padN at hlt; simp; omega
      have h3 : Hid (vals (fillJ j ++ [0]) = vals (fillJ j) ++ [Value.int .u8 0]) := by unfold Hid; simp [vals]
      clear hlj
      go_wp2_with (at_builtin; refine wpList_append_lies _ rfl (.tmp 16) (.tmp 17) 210 rfl 0 5 i0 (.int .u8 0) 1 1 Try.underlying210 hi hz0 hz1 hz2 rfl (by decide) _ _ _ rfl (hv.alloc _).1 ⟨wr.heap.size, 0, none⟩ 1 1 [.int .u8 0] rfl rfl (World.news_of_block (heap_alloc_new wr _)) (by simp [Value.oneCell']) (by decide) ?c3 ?c4 (Nat.zero_le _) _ rfl ?_; (case c3 => unfold maxLen; omega); (case c4 => omega); intro g1 cap w1 hown hgrow hat hlt; have hv2 : Own w1 (fun k => w.heap.size ≤ k) 5 1 (.slice (some ⟨g1, 0, none⟩) ((fillJ j).length + 1) cap) ((fillJ j) ++ [0]).length (vals ((fillJ j) ++ [0])) := own_grown hv hS hgrow hat (by rw [h3.out]; simpa using hown); have hB2 : Below w.heap.size w w1 := below_grown hB hv hgrow; clear hown hgrow hat)
      go_roundw
      case rel => exact ⟨some ⟨g1, 0, none⟩, cap, j + 1, by rw [fillJ_succ]; simp, by omega, by rw [fillJ_succ]; have h := hv2; simp only [List.length_append, List.length_cons, List.length_nil, Nat.zero_add] at h ⊢; exact h, hB2⟩
      case measure => dsimp only; omega
    · as_aux_lemma =>
      obtain rfl : j = padN n - 1 := by omega
      have ht : (((n : Int) % 64 + ((fillJ (padN n - 1)).length : Int) + 8) % 64 != 0) = false := by
        rw [hlj]; unfold padN; simp; omega
      have HB := Lib.hid hB
      have e0 : fillJ (padN n - 1) = fillI n 0 := by simp [fillI]
      rw [e0] at hv ht hl1 hl2 hlj ⊢
      clear hlj
      go_wp2
      go_loopw [3, 5] (fun u i W => ∃ (A : Option Addr) (c j : Nat), u = .slice A (fillI n j).length c ∧ i = .int .i64 j ∧ j ≤ 8 ∧ Own W (fun k => w.heap.size ≤ k) 5 1 (.slice A (fillI n j).length c) (fillI n j).length (vals (fillI n j)) ∧ Below w.heap.size w W) (fun _ i _ => 8 - (intOf i).toNat)
      case atStart => exact ⟨_, _, 0, rfl, rfl, by omega, hv, hB⟩
      case round =>
        clear hv hB ht hl1 hl2 hS
        obtain ⟨A, c, j, rfl, rfl, hj, hv, hB⟩ := hrel
        have hS := hB.size
        have hlj := fillI_len n j
        have hl1 : 1 ≤ (fillI n j).length := by omega
        have hl2 : (fillI n j).length ≤ 72 := by omega
        clear hlj
        by_cases hlt : j < 8
        · as_aux_lemma =>
          have h3 : Hid (vals (fillI n j ++ [UInt8.ofNat (8 * n / 2 ^ (56 - 8 * j))]) = vals (fillI n j) ++ [Value.int .u8 (8 * (n : Int) / 2 ^ (56 - 8 * j) % 256)]) := by unfold Hid; simp [vals]
          go_wp2_with (at_builtin; refine wpList_append_lies _ rfl (.tmp 25) (.tmp 32) 210 rfl 0 5 i0 (.int .u8 0) 1 1 Try.underlying210 hi hz0 hz1 hz2 rfl (by decide) _ _ _ rfl (hv.alloc _).1 ⟨wr.heap.size, 0, none⟩ 1 1 [.int .u8 (8 * (n : Int) / 2 ^ (56 - 8 * j) % 256)] rfl rfl (World.news_of_block (heap_alloc_new wr _)) (by simp [Value.oneCell']) (by decide) ?c3 ?c4 (Nat.zero_le _) _ rfl ?_; (case c3 => unfold maxLen; omega); (case c4 => omega); intro g1 cap w1 hown hgrow hat hlt; have hv2 : Own w1 (fun k => w.heap.size ≤ k) 5 1 (.slice (some ⟨g1, 0, none⟩) ((fillI n j).length + 1) cap) ((fillI n j) ++ [UInt8.ofNat (8 * n / 2 ^ (56 - 8 * j))]).length (vals ((fillI n j) ++ [UInt8.ofNat (8 * n / 2 ^ (56 - 8 * j))])) := own_grown hv hS hgrow hat (by rw [h3.out]; simpa using hown); have hB2 : Below w.heap.size w w1 := below_grown hB hv hgrow; clear hown hgrow hat)
          go_roundw
          case rel => exact ⟨some ⟨g1, 0, none⟩, cap, j + 1, by rw [fillI_succ]; simp, by go_num, by omega, by rw [fillI_succ]; have h := hv2; simp only [List.length_append, List.length_cons, List.length_nil, Nat.zero_add] at h ⊢; exact h, hB2⟩
          case measure => simp [intOf]; omega
        · as_aux_lemma =>
          obtain rfl : j = 8 := by omega
          go_wp2
          go_ret
          rw [fillI_8] at *
          exact ⟨A, c, rfl, hv, hB⟩
def bytV (n : Nat) (f : Nat → UInt8) : Array Value := ((List.range n).map fun j => Value.int .u8 ((f j).toNat : Int)).toArray
theorem bytV_size (n : Nat) (f : Nat → UInt8) : (bytV n f).size = n := by simp [bytV]
theorem bytV_at (n : Nat) (f : Nat → UInt8) {j : Nat} (h : j < n) : (bytV n f)[j]? = some (.int .u8 (f j).toNat) := by unfold bytV; simp [h]
theorem bytV_one (n : Nat) (f : Nat → UInt8) : (bytV n f).all (·.oneCell') = true := by unfold bytV; simp [Value.oneCell']
theorem bytV_ext (n : Nat) (f g : Nat → UInt8) (h : ∀ j, j < n → f j = g j) : bytV n f = bytV n g := by
  unfold bytV; congr 1; apply List.map_congr_left; intro j hj; rw [h j (by simpa using hj)]
def updB (f : Nat → UInt8) (k : Nat) (x : UInt8) : Nat → UInt8 := fun j => if j = k then x else f j
theorem bytV_set (n : Nat) (f : Nat → UInt8) (k : Nat) (x : UInt8) : (bytV n f).setIfInBounds k (.int .u8 x.toNat) = bytV n (updB f k x) := by
  apply Array.ext_getElem?
  intro i
  rw [Array.getElem?_setIfInBounds]
  by_cases hi : i < n
  · rw [bytV_at n _ hi, bytV_at n _ hi, bytV_size]
    unfold updB
    by_cases e : k = i
    · subst e; rw [if_pos rfl, if_pos rfl, if_pos hi]
    · rw [if_neg e, if_neg (fun h => e h.symm)]
  · have h1 : (bytV n f)[i]? = none := Array.getElem?_eq_none (by rw [bytV_size]; omega)
    have h2 : (bytV n (updB f k x))[i]? = none := Array.getElem?_eq_none (by rw [bytV_size]; omega)
    rw [h1, h2]
    by_cases e : k = i
    · subst e; rw [if_pos rfl, if_neg (by rw [bytV_size]; exact hi)]
    · rw [if_neg e]

theorem blk_of_owns {w : World} {g n : Nat} {e : TypeId} {xs : List Value} (h : w.ownsRow 0 e 1 (.slice (some ⟨g, 0, none⟩) n n) n xs) : Blk w g xs.toArray e := by
  rcases h.2 with ⟨h1, _⟩ | ⟨g', cap, cur, hv, hb, hh, h1, h2, h3, h4⟩
  · cases h1
  · cases hv
    have e1 : cur.toList = xs := by rw [← h4]; exact (List.take_of_length_le (by simp; omega)).symm
    rw [← e1]; exact hh
/-- What has been laid so far, from the end on. -/
def fillF (n i j : Nat) : UInt8 := if j = 0 then 128 else if padN n + 8 ≤ j + i ∧ j < padN n + 8 then UInt8.ofNat (8 * n / 2 ^ (8 * (padN n + 7 - j))) else 0
theorem fillF_succ (n i : Nat) (hi : i < 8) (j : Nat) (_h : j < padN n + 8) : fillF n (i + 1) j = updB (fillF n i) (padN n + 7 - i) (UInt8.ofNat (8 * n / 2 ^ (8 * i))) j := by
  have hp := padN_bd n
  unfold updB fillF
  by_cases e : j = padN n + 7 - i
  · subst e
    rw [if_neg (by omega), if_pos ⟨by omega, by omega⟩, if_pos rfl]
    congr 3; omega
  · rw [if_neg e]
    by_cases h0 : j = 0
    · simp [h0]
    · rw [if_neg h0, if_neg h0]
      by_cases h1 : padN n + 8 ≤ j + i ∧ j < padN n + 8
      · rw [if_pos h1, if_pos ⟨by omega, by omega⟩]
      · rw [if_neg h1, if_neg (by omega)]
theorem fillF_8 (n j : Nat) (h : j < padN n + 8) : fillF n 8 j = (fillB n).getD j 0 := by
  have hp := padN_bd n
  unfold fillF fillB
  cases j with
  | zero => rfl
  | succ j =>
    rw [if_neg (by omega), List.getD_cons_succ, List.getD_eq_getElem?_getD, List.getElem?_append]
    by_cases h1 : j < padN n - 1
    · rw [if_neg (by omega), if_pos (by simpa using h1), List.getElem?_replicate, if_pos h1]; rfl
    · rw [if_pos (by omega), if_neg (by simpa using h1)]
      have h2 : j - (padN n - 1) < 8 := by omega
      simp only [List.length_replicate, List.getElem?_map, List.getElem?_range h2, Option.map_some, Option.getD_some]
      congr 3; omega

set_option maxRecDepth 100000 in
set_option maxHeartbeats 2000000 in
theorem digFill (n : Nat) (w : World) (hn : n ≤ 1099511627776) :
    Calls Try.prog 269 #[.int .u64 n] w fun e w' => ∃ b, e = .returned (.slice (some ⟨b, 0, none⟩) (padN n + 8) (padN n + 8)) ∧ Blk w' b (bytV (padN n + 8) (fun j => (fillB n).getD j 0)) 5 ∧ w.heap.size ≤ b ∧ Below w.heap.size w w' := by
  have hpad := padN_bd n
  obtain ⟨i0, hi, hz0, hz1, hz2⟩ := info_parts infoU8
  obtain ⟨L, hLL⟩ : ∃ L, L = padN n + 8 := ⟨_, rfl⟩
  have hL : 72 - ((n : Int) + 8) % 64 = (L : Int) := by rw [hLL]; unfold padN; omega
  have HLL := Lib.hid hLL
  have hl1 : 9 ≤ L := by omega
  have hl2 : L ≤ 72 := by omega
  rw [← hLL]
  have hmade : (madeCells (Value.int .u8 0).cells (L * 1)).toList.toArray = bytV L (fun _ => 0) := by
    apply Array.ext_getElem?
    intro i
    by_cases h : i < L
    · rw [bytV_at _ _ h]; simp [madeCells, Value.cells, h, Nat.mod_one]
    · have h1 : (bytV L (fun _ => 0))[i]? = none := Array.getElem?_eq_none (by rw [bytV_size]; omega)
      rw [h1]; exact Array.getElem?_eq_none (by simp [size_madeCells]; omega)
  have HMADE := Lib.hid hmade
  clear hmade
  have hp2 := padN_bd n
  clear hLL
  go_enter Try.func269, Try.ntmps269
  go_wp2_with (refine wpList_make_full w (by rfl) (.tmp 11) (.tmp 11) 210 (by rfl) 0 5 i0 (.int .u8 0) 1 Try.underlying210 hi hz0 hz1 .i64 .i64 (L : Int) (L : Int) L (by rfl) (by rfl) rfl rfl (by rw [hz2]; omega) (by unfold maxLen; omega) (Nat.zero_le _) ?_; intro w1 hown hgrow; have b1 := blk_of_owns hown; rw [HMADE.out] at b1; have hB1 : Below w.heap.size w w1 := (Below.refl _ _).grown hgrow (Nat.le_refl _) (by intro k hk; cases hk); clear hown hgrow; have z0 := b1.c 0; rw [bytV_at _ _ (by omega)] at z0; have f0 := b1.f 0)
  have b2 : Blk (w1.setCell ⟨w.heap.size, 0, none⟩ (.int .u8 128)) w.heap.size (bytV L (fillF n 0)) 5 := by
    have h := b1.set 0 (.int .u8 ((128 : UInt8).toNat))
    rw [bytV_set] at h
    rw [bytV_ext _ (fillF n 0) (updB (fun _ => 0) 0 128) (fun j hj => by
      unfold fillF updB; by_cases e : j = 0
      · rw [if_pos e, if_pos e]
      · rw [if_neg e, if_neg e, if_neg (by omega)])]
    exact h
  have hB2 : Below w.heap.size w (w1.setCell ⟨w.heap.size, 0, none⟩ (.int .u8 128)) := bl_set hB1 (Nat.le_refl _) _
  clear b1 hB1 z0 f0 hL
  have hSz : w.heap.size < w1.heap.size := by have := b2.lt; simpa [World.setCell] using this
  go_loopw [15] (fun i W => ∃ j : Nat, i = .int .i64 j ∧ j ≤ 8 ∧ Blk W w.heap.size (bytV L (fillF n j)) 5 ∧ Below w.heap.size w W) (fun i _ => 8 - (intOf i).toNat)
  case atStart => exact ⟨0, rfl, by omega, b2, hB2⟩
  case round =>
    obtain ⟨j, rfl, hj, b3, hB3⟩ := hrel
    by_cases hlt : j < 8
    · as_aux_lemma =>
      have z0 := b3.c (L - 1 - j)
      rw [bytV_at _ _ (by omega)] at z0
      have f0 := b3.f (L - 1 - j)
      go_wp2
      go_roundw
      case rel =>
        refine ⟨j + 1, by go_num, by omega, ?_, bl_set hB3 (by dsimp only; omega) _⟩
        have h := b3.set (L - 1 - j) (.int .u8 ((UInt8.ofNat (8 * n / 2 ^ (8 * j))).toNat))
        rw [bytV_set] at h
        rw [bytV_ext L (fillF n (j + 1)) (updB (fillF n j) (L - 1 - j) (UInt8.ofNat (8 * n / 2 ^ (8 * j)))) (fun q hq => by
          have := HLL.out
          rw [fillF_succ n j hlt q (by omega), show padN n + 7 - j = L - 1 - j by omega])]
        simpa using h
      case measure => simp [intOf]; omega
    · as_aux_lemma =>
      obtain rfl : j = 8 := by omega
      go_wp2
      go_ret
      refine ⟨_, rfl, ?_, Nat.le_refl _, hB3⟩
      rw [bytV_ext L (fun j => (fillB n).getD j 0) (fillF n 8) (fun q hq => (fillF_8 n q (by have := HLL.out; omega)).symm)]
      exact b3
end Go.Proofs.Ytfdiedcleggfnaa
