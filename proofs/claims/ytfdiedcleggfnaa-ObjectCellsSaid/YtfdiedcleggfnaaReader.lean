/- The wire package's Reader. -/
import Derived.Test.YtfdiedcleggfnaaEnc3
namespace Go.Proofs.Ytfdiedcleggfnaa
open Go.RowKit Go.Sort
attribute [local go_sem] grow_cell

def byteAt (s : ByteArray) (i : Nat) : Nat := (s.data.toList.getD i 0).toNat
theorem byteAt_lt (s : ByteArray) (i : Nat) : byteAt s i < 256 := UInt8.toNat_lt _
/-- The number that bytes are, the highest first. -/
def hiB (s : ByteArray) : Nat → Nat
  | 0 => 0
  | k + 1 => hiB s k * 256 + byteAt s k
theorem hiB_lt (s : ByteArray) (k : Nat) : hiB s k < 256 ^ k := by
  induction k with
  | zero => simp [hiB]
  | succ k ih => have := byteAt_lt s k; rw [hiB, Nat.pow_succ]; omega

theorem wrap_u64 (n : Int) : IntKind.u64.wrap n = n % 18446744073709551616 := by simp [IntKind.wrap, IntKind.bits, IntKind.signed]
theorem wraps_u64 (n : Int) (h0 : 0 ≤ n) (h1 : n < 2 ^ 64) : IntKind.u64.wrap n = n := by rw [wrap_u64]; omega
/-- Bits put side by side. -/
theorem or_u64 (i x y : Nat) (hy : y < 2 ^ i) (h : x * 2 ^ i + y < 18446744073709551616) : Go.bits .or .u64 ((x * 2 ^ i : Nat) : Int) (y : Int) = ((x * 2 ^ i + y : Nat) : Int) := by
  have hy64 : (y : Int) < 2 ^ 64 := by
    have : (2 : Int) ^ 64 = 18446744073709551616 := by decide
    rw [this]; omega
  have hx64 : ((x * 2 ^ i : Nat) : Int) < 2 ^ 64 := by
    have : (2 : Int) ^ 64 = 18446744073709551616 := by decide
    rw [this]; omega
  have hm : ((x * 2 ^ i : Nat) : Int) % 2 ^ i = 0 := by
    have : (x * 2 ^ i) % 2 ^ i = 0 := Nat.mul_mod_left x (2 ^ i)
    exact_mod_cast this
  have hyi : (y : Int) < 2 ^ i := by exact_mod_cast hy
  rw [bits_join .u64 64 (by decide) wraps_u64 i _ _ (Int.natCast_nonneg _) hm hx64 (Int.natCast_nonneg _) hyi hy64]
  simp
theorem byte_at (s : ByteArray) (k : Nat) (h : k < s.size) : (s[k]'h).toNat = byteAt s k := by
  unfold byteAt
  rw [List.getD_eq_getElem?_getD, List.getElem?_eq_getElem (by simpa using h)]
  rfl
theorem hi_step (s : ByteArray) (k : Nat) (h : k < s.size) (h8 : k < 8) :
    Go.bits .or .u64 (IntKind.u64.wrap ((hiB s k : Int) * 256)) (IntKind.u64.wrap ((s[k]'h).toNat : Int)) = (hiB s (k + 1) : Int) := by
  have h1 := hiB_lt s k
  have h2 : 256 ^ k ≤ 256 ^ 7 := Nat.pow_le_pow_right (by decide) (by omega)
  have h3 : (256 : Nat) ^ 7 = 72057594037927936 := by decide
  have hb := byteAt_lt s k
  rw [byte_at, wrap_u64, wrap_u64, Int.emod_eq_of_lt (by omega) (by omega), Int.emod_eq_of_lt (by omega) (by omega)]
  have := or_u64 8 (hiB s k) (byteAt s k) hb (by omega)
  rw [hiB]
  have e : ((hiB s k * 2 ^ 8 : Nat) : Int) = (hiB s k : Int) * 256 := by simp
  rw [e] at this
  rw [this]

set_option maxRecDepth 100000 in
set_option maxHeartbeats 2000000 in
theorem wireHigh (s : ByteArray) (w : World) (hs : s.size ≤ 8) :
    Calls Try.prog 200 #[.string s] w fun e w' => e = .returned (.int .u64 (hiB s s.size)) ∧ w = w' := by
  go_enter Try.func200, Try.ntmps200
  go_wp2
  go_loop [3, 7] (fun v i => ∃ k : Nat, i = .int .i64 k ∧ k ≤ s.size ∧ v = .int .u64 (hiB s k)) (fun _ i => s.size - (intOf i).toNat)
  case atStart => exact ⟨0, rfl, Nat.zero_le _, rfl⟩
  case round =>
    obtain ⟨k, rfl, hk, rfl⟩ := hrel
    by_cases hlt : k < s.size
    · have H : Hid (Go.bits .or .u64 (IntKind.u64.wrap ((hiB s k : Int) * 256)) (IntKind.u64.wrap ((s[k]'hlt).toNat : Int)) = (hiB s (k + 1) : Int)) := hi_step s k hlt (by omega)
      go_wp2
      go_round
      case rel => exact ⟨k + 1, by go_num, by omega, by rw [H.out]⟩
      case measure => simp [intOf]; omega
    · obtain rfl : k = s.size := by omega
      go_wp2
      go_ret
      exact ⟨rfl, rfl⟩

/-- A reader at block g (its type T): its bytes, how many were taken, its error. -/
def IsR (T : TypeId) (w : World) (g : Nat) (s : ByteArray) (at_ : Nat) (err : Int) : Prop :=
  w.heap[g]? = some (.cells #[.string s, .int .i64 at_, .int .i64 err] T (0, 0)) ∧ at_ ≤ s.size ∧ s.size ≤ 140737488351232
theorem IsR.open_ {T : TypeId} {w : World} {g : Nat} {s : ByteArray} {at_ : Nat} {err : Int} (h : IsR T w g s at_ err) :
    w.cell? ⟨g, 0, none⟩ = some (.string s) ∧ w.cell? ⟨g, 1, none⟩ = some (.int .i64 at_) ∧ w.cell? ⟨g, 2, none⟩ = some (.int .i64 err) ∧
    w.frozen? ⟨g, 0, none⟩ = false ∧ w.frozen? ⟨g, 1, none⟩ = false ∧ w.frozen? ⟨g, 2, none⟩ = false ∧ at_ ≤ s.size ∧ s.size ≤ 140737488351232 ∧ g < w.heap.size := by
  obtain ⟨hg, h1, h2⟩ := h
  refine ⟨?_, ?_, ?_, ?_, ?_, ?_, h1, h2, lt_of_heap hg⟩
  · rw [cell_of_row w g 0 _ _ _ hg]; rfl
  · rw [cell_of_row w g 1 _ _ _ hg]; rfl
  · rw [cell_of_row w g 2 _ _ _ hg]; rfl
  · simp [World.frozen?, hg]
  · simp [World.frozen?, hg]
  · simp [World.frozen?, hg]
theorem IsR.setAt {T : TypeId} {w : World} {g : Nat} {s : ByteArray} {at_ : Nat} {err : Int} (h : IsR T w g s at_ err) (n : Nat) (hn : n ≤ s.size) : IsR T (w.setCell ⟨g, 1, none⟩ (.int .i64 n)) g s n err := by
  obtain ⟨hg, h1, h2⟩ := h
  refine ⟨?_, hn, h2⟩
  simp only [World.setCell, Array.getElem?_modify]; simp [hg]
theorem IsR.setErr {T : TypeId} {w : World} {g : Nat} {s : ByteArray} {at_ : Nat} {err : Int} (h : IsR T w g s at_ err) (n : Int) : IsR T (w.setCell ⟨g, 2, none⟩ (.int .i64 n)) g s at_ n := by
  obtain ⟨hg, h1, h2⟩ := h
  refine ⟨?_, h1, h2⟩
  simp only [World.setCell, Array.getElem?_modify]; simp [hg]
theorem IsR.kp {T : TypeId} {P : Nat → Prop} {w w' : World} {g : Nat} {s : ByteArray} {at_ : Nat} {err : Int} (h : IsR T w g s at_ err) (hk : Kp P w w') (hp : ¬ P g) : IsR T w' g s at_ err :=
  ⟨(hk.block g (lt_of_heap h.1) hp).trans h.1, h.2⟩
theorem IsR.drewN {T : TypeId} {w : World} {g : Nat} {s : ByteArray} {at_ : Nat} {err : Int} (h : IsR T w g s at_ err) (n : Nat) : IsR T (w.drewN n) g s at_ err := h
/-- What a call of a Reader's method leaves. -/
def RKp (T : TypeId) (g : Nat) (s : ByteArray) (w : World) (at_ : Nat) (err : Int) (w' : World) : Prop := IsR T w' g s at_ err ∧ Kp (fun k => k = g) w w'

def takeOk (s : ByteArray) (at_ : Nat) (err : Int) (n : Nat) : Bool := decide (err = 0 ∧ n ≤ s.size - at_)
set_option maxRecDepth 100000 in
set_option maxHeartbeats 2000000 in
theorem readerTakeNo (g : Nat) (s : ByteArray) (at_ : Nat) (err : Int) (n : Nat) (w : World) (h : IsR 247 w g s at_ err) (he : err ≠ 0) :
    Calls Try.prog 199 #[.pointer (some ⟨g, 0, none⟩), .int .i64 n] w fun e w' => e = .returned (.tuple #[.string ⟨#[]⟩, .bool false]) ∧ w = w' := by
  obtain ⟨c0, c1, c2, f0, f1, f2, h1, h2, hgl⟩ := h.open_
  have hd : (err != 0) = true := by simpa using he
  clear he
  go_enter Try.func199, Try.ntmps199
  go_wp2
  go_ret2
  exact ⟨rfl, rfl⟩
set_option maxRecDepth 100000 in
set_option maxHeartbeats 2000000 in
theorem readerTakeShort (g : Nat) (s : ByteArray) (at_ : Nat) (n : Nat) (w : World) (h : IsR 247 w g s at_ 0) (hn : s.size < at_ + n) :
    Calls Try.prog 199 #[.pointer (some ⟨g, 0, none⟩), .int .i64 n] w fun e w' => e = .returned (.tuple #[.string ⟨#[]⟩, .bool false]) ∧ RKp 247 g s w at_ 10 w' := by
  obtain ⟨c0, c1, c2, f0, f1, f2, h1, h2, hgl⟩ := h.open_
  have hd : decide ((s.size : Int) - (at_ : Int) < (n : Int)) = true := decide_eq_true (by omega)
  go_enter Try.func199, Try.ntmps199
  go_wp2
  go_quiet (fail)
  go_wp2
  go_ret2
  exact ⟨rfl, (h.drewN _).setErr 10, Kp.set (P := fun k => k = g) ((Kp.refl _ _).drewN _) (.inl rfl) _⟩
set_option maxRecDepth 100000 in
set_option maxHeartbeats 2000000 in
theorem readerTakeYes (g : Nat) (s : ByteArray) (at_ : Nat) (n : Nat) (w : World) (h : IsR 247 w g s at_ 0) (hn : at_ + n ≤ s.size) :
    Calls Try.prog 199 #[.pointer (some ⟨g, 0, none⟩), .int .i64 n] w fun e w' => e = .returned (.tuple #[.string (s.extract at_ (at_ + n)), .bool true]) ∧ RKp 247 g s w (at_ + n) 0 w' := by
  obtain ⟨c0, c1, c2, f0, f1, f2, h1, h2, hgl⟩ := h.open_
  have hd : decide ((s.size : Int) - (at_ : Int) < (n : Int)) = false := decide_eq_false (by omega)
  have q1 : (0 : Int) ≤ at_ := by omega
  have q2 : (at_ : Int) ≤ (at_ : Int) + (n : Int) := by omega
  have q3 : (at_ : Int) + (n : Int) ≤ (s.size : Int) := by omega
  have q4 : (0 : Int) ≤ (at_ : Int) + (n : Int) := by omega
  go_enter Try.func199, Try.ntmps199
  go_wp2
  go_quiet (fail)
  go_wp2
  go_quiet (fail)
  go_wp2
  go_ret2
  exact ⟨rfl, by simpa using (h.drewN _).setAt (at_ + n) hn, Kp.set (P := fun k => k = g) ((Kp.refl _ _).drewN _) (.inl rfl) _⟩
end Go.Proofs.Ytfdiedcleggfnaa
