/- The reference's Reader, walked. -/
import Derived.Test.YtfdiedcleggfnaaRefRead
namespace Go.Proofs.Ytfdiedcleggfnaa
open Go.RowKit Go.Sort
attribute [local go_sem] grow_cell

def DigPost (T : TypeId) (g : Nat) (s : ByteArray) (at_ : Nat) (err : Int) (w : World) (e : Ending) (w' : World) : Prop :=
  ∃ n, DigOk s at_ n ∧ e = .returned (.string (s.extract at_ (at_ + n))) ∧ RKp T g s w at_ err w'

set_option maxRecDepth 100000 in
set_option maxHeartbeats 2000000 in
theorem refDigits (g : Nat) (s : ByteArray) (at_ : Nat) (err : Int) (w : World) (h : IsR 157 w g s at_ err) :
    Calls Try.prog 254 #[.pointer (some ⟨g, 0, none⟩)] w (DigPost 157 g s at_ err w) := by
  obtain ⟨-, -, -, -, -, -, h1, h2, hgl⟩ := h.open_
  go_enter Try.func254, Try.ntmps254
  go_wp2
  go_loopw [3] (fun i W => ∃ n : Nat, i = .int .i64 n ∧ n ≤ 10 ∧ at_ + n ≤ s.size ∧ Hid (∀ j, j < n → 128 ≤ byteAt s (at_ + j)) ∧ IsR 157 W g s at_ err ∧ Kp (fun k => k = g) w W) (fun i _ => 10 - (intOf i).toNat)
  case atStart => exact ⟨0, rfl, by omega, by omega, (fun j hj => by omega), h, Kp.refl _ _⟩
  case round =>
    obtain ⟨n, rfl, hn, hs, hall, hI, hK⟩ := hrel
    obtain ⟨c0, c1, c2, f0, f1, f2, -, -, -⟩ := hI.open_
    have q1 : (0 : Int) ≤ (at_ : Int) := by omega
    have q2 : (at_ : Int) ≤ (at_ : Int) + (n : Int) := by omega
    have q3 : (at_ : Int) + (n : Int) ≤ (s.size : Int) := by omega
    by_cases h10 : n < 10
    · have hd : decide ((n : Int) < 10) = true := decide_eq_true (by omega)
      by_cases hlt : at_ + n < s.size
      · have hd2 : decide ((at_ : Int) + (n : Int) < (s.size : Int)) = true := decide_eq_true (by omega)
        have hlt' : at_ + (n + 1) - 1 < s.size := by omega
        have hbv : Hid (((s[at_ + n]'hlt).toNat) = byteAt s (at_ + n)) := byte_at s _ hlt
        have hbi : (((s[at_ + n]'hlt).toNat : Nat) : Int) = (byteAt s (at_ + n) : Int) := by rw [hbv.out]
        have q4 : (1 : Int) ≤ (at_ : Int) + ((n : Int) + 1) := by omega
        have q5 : (at_ : Int) + ((n : Int) + 1) - 1 < (s.size : Int) := by omega
        have q6 : (at_ : Int) ≤ (at_ : Int) + ((n : Int) + 1) := by omega
        have q7 : (at_ : Int) + ((n : Int) + 1) ≤ (s.size : Int) := by omega
        by_cases hb : byteAt s (at_ + n) < 128
        · have hb1 : (((s[at_ + n]'hlt).toNat : Nat) : Int) < 128 := by omega
          have hdig : Hid (DigOk s at_ (n + 1)) := ⟨by omega, by omega, fun j hj => hall.out j (by omega), .inl ⟨by omega, by simpa using hb⟩⟩
          clear hb hbi
          go_wp2
          go_quiet (fail)
          go_wp2
          go_quiet (fail)
          go_wp2
          go_quiet (fail)
          go_wp2
          go_ret
          exact ⟨n + 1, hdig.out, by simp, hI, ((hK.drewN _).drewN _).drewN _⟩
        · have hb1 : decide ((((s[at_ + n]'hlt).toNat : Nat) : Int) < 128) = false := decide_eq_false (by omega)
          have hall2 : Hid (∀ j, j < n + 1 → 128 ≤ byteAt s (at_ + j)) := fun j hj => by
            by_cases e : j = n
            · subst e; omega
            · exact hall.out j (by omega)
          clear hb hbi
          go_wp2
          go_quiet (fail)
          go_wp2
          go_quiet (fail)
          go_wp2
          go_roundw
          case rel => exact ⟨n + 1, by go_num, by omega, by omega, hall2, hI, (hK.drewN _).drewN _⟩
          case measure => simp [intOf]; omega
      · have hd2 : decide ((at_ : Int) + (n : Int) < (s.size : Int)) = false := decide_eq_false (by omega)
        have hdig : Hid (DigOk s at_ n) := ⟨hn, hs, fun j hj => hall.out j (by omega), .inr ⟨.inr (by omega), fun h => hall.out _ (by omega)⟩⟩
        go_wp2
        go_quiet (fail)
        go_wp2
        go_quiet (fail)
        go_wp2
        go_ret
        exact ⟨n, hdig.out, rfl, hI, (hK.drewN _).drewN _⟩
    · have hd : decide ((n : Int) < 10) = false := decide_eq_false (by omega)
      have hdig : Hid (DigOk s at_ n) := ⟨hn, hs, fun j hj => hall.out j (by omega), .inr ⟨.inl (by omega), fun h => hall.out _ (by omega)⟩⟩
      go_wp2
      go_quiet (fail)
      go_wp2
      go_quiet (fail)
      go_wp2
      go_ret
      exact ⟨n, hdig.out, rfl, hI, (hK.drewN _).drewN _⟩

/-- The number's value, built from its highest digit. -/
theorem valP_up (s : ByteArray) (n k : Nat) (v : Nat) (h : v * 2 ^ (7 * (k + 1)) + valP s 0 (k + 1) = valP s 0 n) :
    (128 * v + byteAt s k % 128) * 2 ^ (7 * k) + valP s 0 k = valP s 0 n := by
  rw [← h, valP, Nat.zero_add, show 7 * (k + 1) = 7 * k + 7 by omega, Nat.pow_add]
  have e : (2 : Nat) ^ 7 = 128 := by decide
  rw [e]
  generalize 2 ^ (7 * k) = p
  rw [Nat.add_mul]
  have : 128 * v * p = v * (p * 128) := by rw [Nat.mul_comm 128 v, Nat.mul_assoc, Nat.mul_comm 128 p]
  omega
theorem valP_lt (s : ByteArray) (a n : Nat) : valP s a n < 2 ^ (7 * n) := by
  induction n with
  | zero => simp [valP]
  | succ n ih =>
    rw [valP, show 7 * (n + 1) = 7 * n + 7 by omega, Nat.pow_add]
    have e : (2 : Nat) ^ 7 = 128 := by decide
    rw [e]
    have h1 : byteAt s (a + n) % 128 * 2 ^ (7 * n) ≤ 127 * 2 ^ (7 * n) := Nat.mul_le_mul_right _ (by omega)
    omega
theorem valP_64 (s : ByteArray) (n : Nat) (hn : n ≤ 10) (h9 : n = 10 → byteAt s 9 ≤ 1) : valP s 0 n < 18446744073709551616 := by
  by_cases e : n = 10
  · subst e
    have h := valP_lt s 0 9
    rw [valP, Nat.zero_add]
    have e : (2 : Nat) ^ (7 * 9) = 9223372036854775808 := by decide
    rw [e] at h ⊢
    have := h9 rfl
    omega
  · have h := valP_lt s 0 n
    have h2 : 2 ^ (7 * n) ≤ 2 ^ 63 := Nat.pow_le_pow_right (by decide) (by omega)
    have e : (2 : Nat) ^ 63 = 9223372036854775808 := by decide
    omega

set_option maxRecDepth 100000 in
set_option maxHeartbeats 2000000 in
theorem refNumber (d : ByteArray) (most : Int) (w : World) (hd10 : d.size ≤ 10) :
    Calls Try.prog 255 #[.string d, .int .u64 most] w fun e w' => e = .returned (.tuple #[.int .u64 (numR d most).1, .int .i64 (numR d most).2]) ∧ w = w' := by
  by_cases h1 : d.size < 10 ∧ (d.size = 0 ∨ 128 ≤ byteAt d (d.size - 1))
  · have hr : Hid (numR d most = (0, 10)) := if_pos h1
    have hlt : decide ((d.size : Int) < 10) = true := decide_eq_true (by omega)
    by_cases h0 : d.size = 0
    · have hz : ((d.size : Int) == 0) = true := by simpa using h0
      clear h1 h0
      go_enter Try.func255, Try.ntmps255
      go_wp2
      go_ret2
      exact ⟨by rw [hr.out]; rfl, rfl⟩
    · have hz : ((d.size : Int) == 0) = false := by simpa using h0
      have hl : d.size - 1 < d.size := by omega
      have hb : Hid ((d[d.size - 1]'hl).toNat = byteAt d (d.size - 1)) := byte_at d _ hl
      have hb2 : (128 : Int) ≤ (((d[d.size - 1]'hl).toNat : Nat) : Int) := by rw [hb.out]; omega
      have q1 : (1 : Int) ≤ (d.size : Int) := by omega
      have q2 : (d.size : Int) - 1 < (d.size : Int) := by omega
      clear h1 h0
      go_enter Try.func255, Try.ntmps255
      go_wp2
      go_ret2
      exact ⟨by rw [hr.out]; rfl, rfl⟩
  · have hl : d.size - 1 < d.size := by omega
    have hb : Hid ((d[d.size - 1]'hl).toNat = byteAt d (d.size - 1)) := byte_at d _ hl
    have hbi : (((d[d.size - 1]'hl).toNat : Nat) : Int) = byteAt d (d.size - 1) := by rw [hb.out]
    have q1 : (1 : Int) ≤ (d.size : Int) := by omega
    have q2 : (d.size : Int) - 1 < (d.size : Int) := by omega
    have HNO := Lib.hid h1
    by_cases h10 : d.size = 10
    · have hlt : decide ((d.size : Int) < 10) = false := decide_eq_false (by omega)
      have he : ((d.size : Int) == 10) = true := by simp; omega
      have h9 : 9 < d.size := by omega
      have hb9 : Hid ((d[9]'h9).toNat = byteAt d 9) := byte_at d 9 h9
      have hbi9 : (((d[9]'h9).toNat : Nat) : Int) = byteAt d 9 := by rw [hb9.out]
      by_cases hb1 : 1 < byteAt d 9
      · have hr : Hid (numR d most = (0, 11)) := by unfold Hid numR; rw [if_neg HNO.out, if_pos (.inl ⟨h10, hb1⟩)]
        have hb2 : decide ((1 : Int) < (((d[9]'h9).toNat : Nat) : Int)) = true := decide_eq_true (by omega)
        have H10 := Lib.hid h10
        clear h1 h10 hbi hbi9 hb1
        go_enter Try.func255, Try.ntmps255
        go_wp2
        go_ret2
        exact ⟨by rw [hr.out]; rfl, rfl⟩
      · have hb2 : decide ((1 : Int) < (((d[9]'h9).toNat : Nat) : Int)) = false := decide_eq_false (by omega)
        have hn1 : decide ((1 : Int) < (d.size : Int)) = true := decide_eq_true (by omega)
        by_cases hz : byteAt d (d.size - 1) = 0
        · have hr : Hid (numR d most = (0, 11)) := by unfold Hid numR; rw [if_neg HNO.out, if_pos (.inr ⟨by omega, hz⟩)]
          have hzi : ((((d[d.size - 1]'hl).toNat : Nat) : Int) == 0) = true := by rw [hbi]; simpa using hz
          have hzn : (((d[d.size - 1]'hl).toNat : Nat) == 0) = true := by rw [hb.out]; simpa using hz
          have H10 := Lib.hid h10
          clear h1 h10 hbi hbi9 hb1 hz
          go_enter Try.func255, Try.ntmps255
          go_wp2
          go_ret2
          exact ⟨by rw [hr.out]; rfl, rfl⟩
        · have HR : Hid (numR d most = if most < (valP d 0 d.size : Int) then (0, 11) else (valP d 0 d.size, 0)) := by
            unfold Hid numR; rw [if_neg HNO.out, if_neg (fun h => h.elim (fun h => hb1 h.2) (fun h => hz h.2))]
          have hzi : ((((d[d.size - 1]'hl).toNat : Nat) : Int) == 0) = false := by rw [hbi]; simpa using hz
          have hzn : (((d[d.size - 1]'hl).toNat : Nat) == 0) = false := by rw [hb.out]; simpa using hz
          have h9b : d.size = 10 → byteAt d 9 ≤ 1 := fun _ => by omega
          have H10 := Lib.hid h10
          clear h1 h10 hbi hbi9 hb1 hz
          have H64 := Lib.hid (valP_64 d d.size hd10 h9b)
          clear h9b HNO
          go_enter Try.func255, Try.ntmps255
          go_wp2
          go_loop [7, 8] (fun v i => ∃ (j : Int) (x : Nat), i = .int .i64 j ∧ v = .int .u64 x ∧ -1 ≤ j ∧ j < d.size ∧ Hid (x * 2 ^ (7 * (j + 1).toNat) + valP d 0 (j + 1).toNat = valP d 0 d.size)) (fun _ i => (intOf i + 1).toNat)
          case atStart => exact ⟨_, 0, rfl, rfl, by omega, by omega, by unfold Hid; rw [show ((d.size : Int) - 1 + 1).toNat = d.size by omega]; omega⟩
          case round =>
            obtain ⟨j, x, rfl, rfl, hj0, hj1, hx⟩ := hrel
            by_cases hj : 0 ≤ j
            · obtain ⟨m, rfl⟩ : ∃ m : Nat, j = m := ⟨j.toNat, by omega⟩
              have hm : m < d.size := by omega
              have hx' : x * 2 ^ (7 * (m + 1)) + valP d 0 (m + 1) = valP d 0 d.size := hx.out
              have hup := valP_up d d.size m x hx'
              have hx64 : 128 * x + byteAt d m % 128 < 18446744073709551616 := by
                have h2 : (128 * x + byteAt d m % 128) * 1 ≤ (128 * x + byteAt d m % 128) * 2 ^ (7 * m) := Nat.mul_le_mul_left _ (Nat.pos_of_ne_zero (by simp))
                have := H64.out
                omega
              have hbv : Hid (((d[m]'hm).toNat : Nat) = byteAt d m) := byte_at d m hm
              have hbl := byteAt_lt d m
              have hbi : (((d[m]'hm).toNat : Nat) : Int) = byteAt d m := by rw [hbv.out]
              have r1 : (0 : Int) ≤ 128 * (x : Int) := by omega
              have r2 : (128 : Int) * (x : Int) + (((d[m]'hm).toNat : Nat) : Int) % 128 ≤ 18446744073709551615 := by omega
              have HUP : Hid ((128 * x + byteAt d m % 128) * 2 ^ (7 * m) + valP d 0 m = valP d 0 d.size) := hup
              have HE : Hid ((128 : Int) * (x : Int) + (((d[m]'hm).toNat : Nat) : Int) % 128 = ((128 * x + byteAt d m % 128 : Nat) : Int)) := by
                unfold Hid; rw [hbi]; push_cast; rfl
              clear hup hx' hbi
              go_wp2
              go_round
              case rel => exact ⟨(m : Int) - 1, _, rfl, congrArg (Value.int .u64) HE.out, by omega, by omega, by rw [show (((m : Int) - 1) + 1).toNat = m by omega]; exact HUP⟩
              case measure => simp [intOf]
            · obtain rfl : j = -1 := by omega
              have hx' : x = valP d 0 d.size := by have := hx.out; simpa [valP] using this
              subst hx'
              by_cases hmo : most < (valP d 0 d.size : Int)
              · have hr : Hid (numR d most = (0, 11)) := by unfold Hid; rw [HR.out, if_pos hmo]
                go_wp2
                go_ret2
                exact ⟨by rw [hr.out]; rfl, rfl⟩
              · have hr : Hid (numR d most = (valP d 0 d.size, 0)) := by unfold Hid; rw [HR.out, if_neg hmo]
                go_wp2
                go_ret2
                exact ⟨by rw [hr.out]; rfl, rfl⟩
    · have hlt : decide ((d.size : Int) < 10) = true := decide_eq_true (by omega)
      have h0n : ¬ d.size = 0 := by omega
      have h0i : ((d.size : Int) == 0) = false := by simpa using h0n
      clear h0n
      have he : ((d.size : Int) == 10) = false := by simp; omega
      have hb127 : byteAt d (d.size - 1) < 128 := by
        by_cases h : 128 ≤ byteAt d (d.size - 1)
        · exact absurd ⟨by omega, .inr h⟩ h1
        · omega
      have hb128 : decide ((128 : Int) ≤ (((d[d.size - 1]'hl).toNat : Nat) : Int)) = false := decide_eq_false (by omega)
      clear hb127
      have h9b : d.size = 10 → byteAt d 9 ≤ 1 := fun h => absurd h h10
      by_cases hn : 1 < d.size
      · have hn1 : decide ((1 : Int) < (d.size : Int)) = true := decide_eq_true (by omega)
        by_cases hz : byteAt d (d.size - 1) = 0
        · have hr : Hid (numR d most = (0, 11)) := by unfold Hid numR; rw [if_neg HNO.out, if_pos (.inr ⟨by omega, hz⟩)]
          have hzi : ((((d[d.size - 1]'hl).toNat : Nat) : Int) == 0) = true := by rw [hbi]; simpa using hz
          have hzn : (((d[d.size - 1]'hl).toNat : Nat) == 0) = true := by rw [hb.out]; simpa using hz
          have H10 := Lib.hid h10
          clear h1 h10 hbi hz
          go_enter Try.func255, Try.ntmps255
          go_wp2
          go_ret2
          exact ⟨by rw [hr.out]; rfl, rfl⟩
        · have HR : Hid (numR d most = if most < (valP d 0 d.size : Int) then (0, 11) else (valP d 0 d.size, 0)) := by
            unfold Hid numR; rw [if_neg HNO.out, if_neg (fun h => h.elim (fun h => h10 h.1) (fun h => hz h.2))]
          have hzi : ((((d[d.size - 1]'hl).toNat : Nat) : Int) == 0) = false := by rw [hbi]; simpa using hz
          have hzn : (((d[d.size - 1]'hl).toNat : Nat) == 0) = false := by rw [hb.out]; simpa using hz
          have H10 := Lib.hid h10
          clear h1 h10 hbi hz
          have H64 := Lib.hid (valP_64 d d.size hd10 h9b)
          clear h9b HNO
          go_enter Try.func255, Try.ntmps255
          go_wp2
          go_loop [7, 8] (fun v i => ∃ (j : Int) (x : Nat), i = .int .i64 j ∧ v = .int .u64 x ∧ -1 ≤ j ∧ j < d.size ∧ Hid (x * 2 ^ (7 * (j + 1).toNat) + valP d 0 (j + 1).toNat = valP d 0 d.size)) (fun _ i => (intOf i + 1).toNat)
          case atStart => exact ⟨_, 0, rfl, rfl, by omega, by omega, by unfold Hid; rw [show ((d.size : Int) - 1 + 1).toNat = d.size by omega]; omega⟩
          case round =>
            obtain ⟨j, x, rfl, rfl, hj0, hj1, hx⟩ := hrel
            by_cases hj : 0 ≤ j
            · obtain ⟨m, rfl⟩ : ∃ m : Nat, j = m := ⟨j.toNat, by omega⟩
              have hm : m < d.size := by omega
              have hx' : x * 2 ^ (7 * (m + 1)) + valP d 0 (m + 1) = valP d 0 d.size := hx.out
              have hup := valP_up d d.size m x hx'
              have hx64 : 128 * x + byteAt d m % 128 < 18446744073709551616 := by
                have h2 : (128 * x + byteAt d m % 128) * 1 ≤ (128 * x + byteAt d m % 128) * 2 ^ (7 * m) := Nat.mul_le_mul_left _ (Nat.pos_of_ne_zero (by simp))
                have := H64.out
                omega
              have hbv : Hid (((d[m]'hm).toNat : Nat) = byteAt d m) := byte_at d m hm
              have hbl := byteAt_lt d m
              have hbi : (((d[m]'hm).toNat : Nat) : Int) = byteAt d m := by rw [hbv.out]
              have r1 : (0 : Int) ≤ 128 * (x : Int) := by omega
              have r2 : (128 : Int) * (x : Int) + (((d[m]'hm).toNat : Nat) : Int) % 128 ≤ 18446744073709551615 := by omega
              have HUP : Hid ((128 * x + byteAt d m % 128) * 2 ^ (7 * m) + valP d 0 m = valP d 0 d.size) := hup
              have HE : Hid ((128 : Int) * (x : Int) + (((d[m]'hm).toNat : Nat) : Int) % 128 = ((128 * x + byteAt d m % 128 : Nat) : Int)) := by
                unfold Hid; rw [hbi]; push_cast; rfl
              clear hup hx' hbi
              go_wp2
              go_round
              case rel => exact ⟨(m : Int) - 1, _, rfl, congrArg (Value.int .u64) HE.out, by omega, by omega, by rw [show (((m : Int) - 1) + 1).toNat = m by omega]; exact HUP⟩
              case measure => simp [intOf]
            · obtain rfl : j = -1 := by omega
              have hx' : x = valP d 0 d.size := by have := hx.out; simpa [valP] using this
              subst hx'
              by_cases hmo : most < (valP d 0 d.size : Int)
              · have hr : Hid (numR d most = (0, 11)) := by unfold Hid; rw [HR.out, if_pos hmo]
                go_wp2
                go_ret2
                exact ⟨by rw [hr.out]; rfl, rfl⟩
              · have hr : Hid (numR d most = (valP d 0 d.size, 0)) := by unfold Hid; rw [HR.out, if_neg hmo]
                go_wp2
                go_ret2
                exact ⟨by rw [hr.out]; rfl, rfl⟩
      · have hn1 : decide ((1 : Int) < (d.size : Int)) = false := decide_eq_false (by omega)
        have HR : Hid (numR d most = if most < (valP d 0 d.size : Int) then (0, 11) else (valP d 0 d.size, 0)) := by
          unfold Hid numR; rw [if_neg HNO.out, if_neg (fun h => h.elim (fun h => h10 h.1) (fun h => hn h.1))]
        have H10 := Lib.hid h10
        clear h1 h10 hbi
        have H64 := Lib.hid (valP_64 d d.size hd10 h9b)
        clear h9b HNO
        go_enter Try.func255, Try.ntmps255
        go_wp2
        go_loop [7, 8] (fun v i => ∃ (j : Int) (x : Nat), i = .int .i64 j ∧ v = .int .u64 x ∧ -1 ≤ j ∧ j < d.size ∧ Hid (x * 2 ^ (7 * (j + 1).toNat) + valP d 0 (j + 1).toNat = valP d 0 d.size)) (fun _ i => (intOf i + 1).toNat)
        case atStart => exact ⟨_, 0, rfl, rfl, by omega, by omega, by unfold Hid; rw [show ((d.size : Int) - 1 + 1).toNat = d.size by omega]; omega⟩
        case round =>
          obtain ⟨j, x, rfl, rfl, hj0, hj1, hx⟩ := hrel
          by_cases hj : 0 ≤ j
          · obtain ⟨m, rfl⟩ : ∃ m : Nat, j = m := ⟨j.toNat, by omega⟩
            have hm : m < d.size := by omega
            have hx' : x * 2 ^ (7 * (m + 1)) + valP d 0 (m + 1) = valP d 0 d.size := hx.out
            have hup := valP_up d d.size m x hx'
            have hx64 : 128 * x + byteAt d m % 128 < 18446744073709551616 := by
              have h2 : (128 * x + byteAt d m % 128) * 1 ≤ (128 * x + byteAt d m % 128) * 2 ^ (7 * m) := Nat.mul_le_mul_left _ (Nat.pos_of_ne_zero (by simp))
              have := H64.out
              omega
            have hbv : Hid (((d[m]'hm).toNat : Nat) = byteAt d m) := byte_at d m hm
            have hbl := byteAt_lt d m
            have hbi : (((d[m]'hm).toNat : Nat) : Int) = byteAt d m := by rw [hbv.out]
            have r1 : (0 : Int) ≤ 128 * (x : Int) := by omega
            have r2 : (128 : Int) * (x : Int) + (((d[m]'hm).toNat : Nat) : Int) % 128 ≤ 18446744073709551615 := by omega
            have HUP : Hid ((128 * x + byteAt d m % 128) * 2 ^ (7 * m) + valP d 0 m = valP d 0 d.size) := hup
            have HE : Hid ((128 : Int) * (x : Int) + (((d[m]'hm).toNat : Nat) : Int) % 128 = ((128 * x + byteAt d m % 128 : Nat) : Int)) := by
              unfold Hid; rw [hbi]; push_cast; rfl
            clear hup hx' hbi
            go_wp2
            go_round
            case rel => exact ⟨(m : Int) - 1, _, rfl, congrArg (Value.int .u64) HE.out, by omega, by omega, by rw [show (((m : Int) - 1) + 1).toNat = m by omega]; exact HUP⟩
            case measure => simp [intOf]
          · obtain rfl : j = -1 := by omega
            have hx' : x = valP d 0 d.size := by have := hx.out; simpa [valP] using this
            subst hx'
            by_cases hmo : most < (valP d 0 d.size : Int)
            · have hr : Hid (numR d most = (0, 11)) := by unfold Hid; rw [HR.out, if_pos hmo]
              go_wp2
              go_ret2
              exact ⟨by rw [hr.out]; rfl, rfl⟩
            · have hr : Hid (numR d most = (valP d 0 d.size, 0)) := by unfold Hid; rw [HR.out, if_neg hmo]
              go_wp2
              go_ret2
              exact ⟨by rw [hr.out]; rfl, rfl⟩

theorem refFail0 (g : Nat) (s : ByteArray) (at_ : Nat) (err n : Int) (w : World) (h : IsR 157 w g s at_ err) :
    Calls Try.prog 256 #[.pointer (some ⟨g, 0, none⟩), .int .i64 n] w fun e w' => e = .returned (.tuple #[]) ∧ RKp 157 g s w at_ (if err = 0 then n else err) w' := by
  obtain ⟨c0, c1, c2, f0, f1, f2, h1, h2, hgl⟩ := h.open_
  by_cases he : err = 0
  · rw [if_pos he]
    have hd : (err == 0) = true := by simpa using he
    clear he
    go_enter Try.func256, Try.ntmps256
    go_wp2
    go_end0
    exact ⟨rfl, h.setErr n, Kp.set (P := fun k => k = g) (Kp.refl _ _) (.inl rfl) _⟩
  · rw [if_neg he]
    have hd : (err == 0) = false := by simpa using he
    clear he
    go_enter Try.func256, Try.ntmps256
    go_wp2
    go_end0
    exact ⟨rfl, h, Kp.refl _ _⟩
theorem refFail (g : Nat) (s : ByteArray) (at_ : Nat) (err n : Int) (w : World) (h : IsR 157 w g s at_ err) :
    Calls Try.prog 253 #[.pointer (some ⟨g, 0, none⟩), .int .i64 n] w fun e w' => e = .returned (.tuple #[]) ∧ RKp 157 g s w at_ (if err = 0 then n else err) w' := by
  have hF := refFail0 g s at_ err n w h
  generalize (if err = 0 then n else err) = er at *
  have HF := Lib.hid hF
  clear hF
  go_enter Try.func253, Try.ntmps253
  go_wp2_with (go_at_call 256; (with_reducible refine (HF.out).mono ?_); rintro e w2 ⟨rfl, hw2⟩)
  go_end0
  exact ⟨rfl, hw2⟩

set_option maxRecDepth 100000 in
set_option maxHeartbeats 2000000 in
theorem refReadUint (g : Nat) (s : ByteArray) (at_ : Nat) (err most : Int) (w : World) (h : IsR 157 w g s at_ err) :
    Calls Try.prog 195 #[.pointer (some ⟨g, 0, none⟩), .int .u64 most] w fun e w' => e = .returned (.int .u64 (rdU s at_ err most).1) ∧ RKp 157 g s w (rdU s at_ err most).2.1 (rdU s at_ err most).2.2 w' := by
  obtain ⟨c0, c1, c2, f0, f1, f2, h1, h2, hgl⟩ := h.open_
  by_cases he : err = 0
  · subst he
    have hr0 : rdU s at_ 0 most = ((uvar s at_ most).2.1, at_ + (uvar s at_ most).2.2, (uvar s at_ most).1) := if_pos rfl
    have hR0 := Lib.hid hr0
    clear hr0
    go_enter Try.func195, Try.ntmps195
    go_wp2_with (first | (go_at_call 254; refine (refDigits g s at_ 0 w h).mono ?_; rintro e w2 ⟨n, hn, rfl, hw2⟩; (have hsz : (s.extract at_ (at_ + n)).size ≤ 10 := by have := hn.1; simp; omega); (have hle : at_ + n ≤ s.size := hn.2.1); (have hln : Hid ((s.extract at_ (at_ + n)).size = n) := (by have := hn.2.1; unfold Hid; simp; omega)); (have hb1 : (at_ : Int) + ((s.extract at_ (at_ + n)).size : Int) ≤ 140737488351232 := (by rw [hln.out]; omega)); have hnum := Lib.hid (num_uvar (most := most) hn); clear hn; obtain ⟨e0, e1, e2, p0, p1, p2, -, -, -⟩ := hw2.1.open_) | (go_at_call 255; refine (refNumber _ most _ hsz).mono ?_; rintro e w3 ⟨rfl, rfl⟩) | (go_at_call 256; refine (refFail0 g s at_ 0 _ _ hw2.1).mono ?_; rintro e w3 ⟨rfl, hw3⟩))
    · rename_i hne
      have hn : (numR (s.extract at_ (at_ + n)) most).2 ≠ 0 := by simpa using hne
      have hu : uvar s at_ most = ((numR (s.extract at_ (at_ + n)) most).2, 0, 0) := by rw [hnum.out, if_neg hn]
      simp only [if_true] at hw3
      go_ret
      exact ⟨by rw [hR0.out, hu]; rfl, by rw [hR0.out, hu]; exact ⟨hw3.1, hw2.2.trans hw3.2 (fun _ _ h => h)⟩⟩
    · rename_i hne
      have hn : (numR (s.extract at_ (at_ + n)) most).2 = 0 := by simpa using hne
      have hu : uvar s at_ most = (0, (numR (s.extract at_ (at_ + n)) most).1, n) := by rw [hnum.out, if_pos hn]
      go_ret
      exact ⟨by rw [hR0.out, hu]; rfl, by
        rw [hR0.out, hu]
        have h3 := hw2.1.setAt (at_ + n) hle
        refine ⟨?_, ?_⟩
        · simpa using h3
        · exact Kp.set (P := fun k => k = g) hw2.2 (.inl rfl) _⟩
  · have hr : Hid (rdU s at_ err most = (0, at_, err)) := if_neg he
    have hd : (err != 0) = true := by simpa using he
    clear he
    go_enter Try.func195, Try.ntmps195
    go_wp2
    go_ret
    exact ⟨by rw [hr.out]; rfl, by rw [hr.out]; exact ⟨h, Kp.refl _ _⟩⟩

set_option maxRecDepth 100000 in
set_option maxHeartbeats 2000000 in
theorem refWhole (s : ByteArray) (w : World) (hs : s.size ≤ 8) :
    Calls Try.prog 258 #[.string s] w fun e w' => e = .returned (.int .u64 (hiB s s.size)) ∧ w = w' := by
  go_enter Try.func258, Try.ntmps258
  go_wp2
  go_loop [3, 4] (fun v i => ∃ k : Nat, i = .int .i64 k ∧ k ≤ s.size ∧ v = .int .u64 (hiB s k)) (fun _ i => s.size - (intOf i).toNat)
  case atStart => exact ⟨0, rfl, Nat.zero_le _, rfl⟩
  case round =>
    obtain ⟨k, rfl, hk, rfl⟩ := hrel
    by_cases hlt : k < s.size
    · have hbv : Hid (((s[k]'hlt).toNat : Nat) = byteAt s k) := byte_at s k hlt
      have hbi : (((s[k]'hlt).toNat : Nat) : Int) = byteAt s k := by rw [hbv.out]
      have hbl := byteAt_lt s k
      have hh := hiB_lt s k
      have h2 : 256 ^ k ≤ 256 ^ 7 := Nat.pow_le_pow_right (by decide) (by omega)
      have h3 : (256 : Nat) ^ 7 = 72057594037927936 := by decide
      have h4 : hiB s k < 72057594037927936 := by omega
      have H : Hid ((256 : Int) * (hiB s k : Int) + (((s[k]'hlt).toNat : Nat) : Int) = (hiB s (k + 1) : Int)) := by
        unfold Hid; rw [hbi, hiB]; push_cast; omega
      rw [hbi] at H
      clear hh h2 h3
      go_wp2
      go_round
      case rel => exact ⟨k + 1, by go_num, by omega, congrArg (Value.int .u64) H.out⟩
      case measure => simp [intOf]; omega
    · obtain rfl : k = s.size := by omega
      go_wp2
      go_ret
      exact ⟨rfl, rfl⟩

set_option maxRecDepth 100000 in
set_option maxHeartbeats 2000000 in
theorem refRawNo (g : Nat) (s : ByteArray) (at_ : Nat) (err : Int) (n : Int) (m : Nat) (hnm : n = m) (w : World) (h : IsR 157 w g s at_ err) (he : err ≠ 0) :
    Calls Try.prog 257 #[.pointer (some ⟨g, 0, none⟩), .int .i64 n] w fun e w' => e = .returned (.string ⟨#[]⟩) ∧ RKp 157 g s w at_ err w' := by
  subst hnm
  obtain ⟨c0, c1, c2, f0, f1, f2, h1, h2, hgl⟩ := h.open_
  have hd : (err != 0) = true := by simpa using he
  have HE := Lib.hid he
  clear he
  by_cases hs : s.size < at_ + m
  · have hd1 : decide ((s.size : Int) - (at_ : Int) < (m : Int)) = true := decide_eq_true (by omega)
    have hF := fun W h => refFail0 g s at_ err 10 W h
    rw [if_neg HE.out] at hF
    have HF := Lib.hid hF
    clear hF
    go_enter Try.func257, Try.ntmps257
    go_wp2
    go_quiet (fail)
    go_wp2_with (go_at_call 256; refine (HF.out _ (h.drewN _)).mono ?_; rintro e w3 ⟨rfl, hw3⟩; obtain ⟨e0, e1, e2, p0, p1, p2, -, -, -⟩ := hw3.1.open_)
    go_ret
    exact ⟨rfl, hw3.1, ((Kp.refl _ _).drewN _).trans hw3.2 (fun _ _ h => h)⟩
  · have hd1 : decide ((s.size : Int) - (at_ : Int) < (m : Int)) = false := decide_eq_false (by omega)
    go_enter Try.func257, Try.ntmps257
    go_wp2
    go_quiet (fail)
    go_wp2
    go_ret
    exact ⟨rfl, h, (Kp.refl _ _).drewN _⟩
set_option maxRecDepth 100000 in
set_option maxHeartbeats 2000000 in
theorem refRawShort (g : Nat) (s : ByteArray) (at_ : Nat) (n : Int) (m : Nat) (hnm : n = m) (w : World) (h : IsR 157 w g s at_ 0) (hn : s.size < at_ + m) :
    Calls Try.prog 257 #[.pointer (some ⟨g, 0, none⟩), .int .i64 n] w fun e w' => e = .returned (.string ⟨#[]⟩) ∧ RKp 157 g s w at_ 10 w' := by
  subst hnm
  obtain ⟨c0, c1, c2, f0, f1, f2, h1, h2, hgl⟩ := h.open_
  have hd1 : decide ((s.size : Int) - (at_ : Int) < (m : Int)) = true := decide_eq_true (by omega)
  have hF := fun W h => refFail0 g s at_ 0 10 W h
  simp only [if_true] at hF
  have HF := Lib.hid hF
  clear hF
  go_enter Try.func257, Try.ntmps257
  go_wp2
  go_quiet (fail)
  go_wp2_with (go_at_call 256; refine (HF.out _ (h.drewN _)).mono ?_; rintro e w3 ⟨rfl, hw3⟩; obtain ⟨e0, e1, e2, p0, p1, p2, -, -, -⟩ := hw3.1.open_)
  go_ret
  exact ⟨rfl, hw3.1, ((Kp.refl _ _).drewN _).trans hw3.2 (fun _ _ h => h)⟩
set_option maxRecDepth 100000 in
set_option maxHeartbeats 2000000 in
theorem refRawYes (g : Nat) (s : ByteArray) (at_ : Nat) (n : Int) (m : Nat) (hnm : n = m) (w : World) (h : IsR 157 w g s at_ 0) (hn : at_ + m ≤ s.size) :
    Calls Try.prog 257 #[.pointer (some ⟨g, 0, none⟩), .int .i64 n] w fun e w' => e = .returned (.string (s.extract at_ (at_ + m))) ∧ RKp 157 g s w (at_ + m) 0 w' := by
  subst hnm
  obtain ⟨c0, c1, c2, f0, f1, f2, h1, h2, hgl⟩ := h.open_
  have hd1 : decide ((s.size : Int) - (at_ : Int) < (m : Int)) = false := decide_eq_false (by omega)
  have q1 : (0 : Int) ≤ at_ := by omega
  have q2 : (at_ : Int) ≤ (at_ : Int) + (m : Int) := by omega
  have q3 : (at_ : Int) + (m : Int) ≤ (s.size : Int) := by omega
  have q4 : (0 : Int) ≤ (at_ : Int) + (m : Int) := by omega
  go_enter Try.func257, Try.ntmps257
  go_wp2
  go_quiet (fail)
  go_wp2
  go_quiet (fail)
  go_wp2
  go_ret
  exact ⟨rfl, by simpa using (h.drewN _).setAt (at_ + m) hn, Kp.set (P := fun k => k = g) ((Kp.refl _ _).drewN _) (.inl rfl) _⟩

set_option maxRecDepth 100000 in
set_option maxHeartbeats 2000000 in
theorem refByte (g : Nat) (s : ByteArray) (at_ : Nat) (err : Int) (w : World) (h : IsR 157 w g s at_ err) :
    Calls Try.prog 196 #[.pointer (some ⟨g, 0, none⟩)] w fun e w' => e = .returned (.int .u8 (rdB s at_ err).1) ∧ RKp 157 g s w (rdB s at_ err).2.1 (rdB s at_ err).2.2 w' := by
  have hh0 : Hid (((hiB ⟨#[]⟩ (⟨#[]⟩ : ByteArray).size : Nat) : Int) = 0) := rfl
  by_cases he : err = 0
  · subst he
    by_cases hs : at_ + 1 ≤ s.size
    · have hr : Hid (rdB s at_ 0 = (byteAt s at_, at_ + 1, 0)) := by unfold Hid rdB; rw [if_pos rfl, if_pos hs]
      have hsz : (s.extract at_ (at_ + 1)).size = 1 := by simp; omega
      have hv : Hid (((hiB (s.extract at_ (at_ + 1)) (s.extract at_ (at_ + 1)).size : Nat) : Int) = byteAt s at_) := by
        unfold Hid; rw [hsz]
        simp only [hiB, Nat.zero_mul, Nat.zero_add]
        unfold byteAt
        simp [ByteArray.data_extract, List.getD_eq_getElem?_getD]
      have hbl := byteAt_lt s at_
      have hs8 : (s.extract at_ (at_ + 1)).size ≤ 8 := by omega
      have hH : ∀ W, Calls Try.prog 258 #[.string (s.extract at_ (at_ + 1))] W fun e w' => e = .returned (.int .u64 (byteAt s at_)) ∧ W = w' := fun W => by
        have := refWhole (s.extract at_ (at_ + 1)) W hs8
        rwa [hv.out] at this
      have HH := Lib.hid hH
      clear hsz hv hH hs8
      go_enter Try.func196, Try.ntmps196
      go_wp2_with (first | (go_at_call 257; (with_reducible refine (refRawYes g s at_ 1 1 rfl w h hs).mono ?_); rintro e w2 ⟨rfl, hw2⟩) | (go_at_call 258; refine (HH.out _).mono ?_; rintro e w3 ⟨rfl, rfl⟩))
      go_ret
      exact ⟨by rw [hr.out]; rfl, by rw [hr.out]; exact hw2⟩
    · have hr : Hid (rdB s at_ 0 = (0, at_, 10)) := by unfold Hid rdB; rw [if_pos rfl, if_neg hs]
      have hH := fun W => refWhole (⟨#[]⟩ : ByteArray) W (by decide)
      have HH := Lib.hid hH
      clear hH
      go_enter Try.func196, Try.ntmps196
      go_wp2_with (first | (go_at_call 257; (with_reducible refine (refRawShort g s at_ 1 1 rfl w h (by omega)).mono ?_); rintro e w2 ⟨rfl, hw2⟩) | (go_at_call 258; refine (HH.out _).mono ?_; rintro e w3 ⟨rfl, rfl⟩))
      go_ret
      exact ⟨by rw [hr.out]; rfl, by rw [hr.out]; exact hw2⟩
  · have hr : Hid (rdB s at_ err = (0, at_, err)) := by unfold Hid rdB; rw [if_neg he]
    have hH := fun W => refWhole (⟨#[]⟩ : ByteArray) W (by decide)
    have HH := Lib.hid hH
    have HE := Lib.hid he
    clear hH he
    go_enter Try.func196, Try.ntmps196
    go_wp2_with (first | (go_at_call 257; (with_reducible refine (refRawNo g s at_ err 1 1 rfl w h HE.out).mono ?_); rintro e w2 ⟨rfl, hw2⟩) | (go_at_call 258; refine (HH.out _).mono ?_; rintro e w3 ⟨rfl, rfl⟩))
    go_ret
    exact ⟨by rw [hr.out]; rfl, by rw [hr.out]; exact hw2⟩

set_option maxRecDepth 100000 in
set_option maxHeartbeats 2000000 in
theorem refEnd (g : Nat) (s : ByteArray) (at_ : Nat) (err : Int) (w : World) (h : IsR 157 w g s at_ err) :
    Calls Try.prog 106 #[.pointer (some ⟨g, 0, none⟩)] w fun e w' => e = .returned (.int .i64 (rdEnd s at_ err)) ∧ Below w.heap.size w w' := by
  obtain ⟨c0, c1, c2, f0, f1, f2, h1, h2, hgl⟩ := h.open_
  have hB := Below.refl w.heap.size w
  by_cases he : err = 0
  · have hd : (err == 0) = true := by simpa using he
    by_cases hs : at_ < s.size
    · have hs' : decide ((at_ : Int) < (s.size : Int)) = true := decide_eq_true (by omega)
      have hr : Hid (rdEnd s at_ err = 12) := if_pos ⟨he, hs⟩
      clear he
      go_enter Try.func106, Try.ntmps106
      go_wp2
      go_quiet (fail)
      go_wp2
      go_ret
      exact ⟨by rw [hr.out]; rfl, by repeat first | exact hB | (refine bl_drewN ?_ _) | (refine bl_drew ?_) | (refine bl_grow ?_ (by first | omega | (simp; omega) | simp) _ _) | (refine bl_set ?_ (by first | omega | (simp; omega) | simp) _) | (refine bl_alloc ?_ (by first | omega | (simp; omega) | simp) _)⟩
    · have hs' : decide ((at_ : Int) < (s.size : Int)) = false := decide_eq_false (by omega)
      have hr : Hid (rdEnd s at_ err = err) := if_neg (fun h => hs h.2)
      clear he
      go_enter Try.func106, Try.ntmps106
      go_wp2
      go_quiet (fail)
      go_wp2
      go_ret
      exact ⟨by rw [hr.out]; rfl, by repeat first | exact hB | (refine bl_drewN ?_ _) | (refine bl_drew ?_) | (refine bl_grow ?_ (by first | omega | (simp; omega) | simp) _ _) | (refine bl_set ?_ (by first | omega | (simp; omega) | simp) _) | (refine bl_alloc ?_ (by first | omega | (simp; omega) | simp) _)⟩
  · have hd : (err == 0) = false := by simpa using he
    have hr : Hid (rdEnd s at_ err = err) := if_neg (fun h => he h.1)
    clear he
    go_enter Try.func106, Try.ntmps106
    go_wp2
    go_quiet (fail)
    go_wp2
    go_ret
    exact ⟨by rw [hr.out]; rfl, by repeat first | exact hB | (refine bl_drewN ?_ _) | (refine bl_drew ?_) | (refine bl_grow ?_ (by first | omega | (simp; omega) | simp) _ _) | (refine bl_set ?_ (by first | omega | (simp; omega) | simp) _) | (refine bl_alloc ?_ (by first | omega | (simp; omega) | simp) _)⟩

set_option maxRecDepth 100000 in
set_option maxHeartbeats 2000000 in
theorem refRText (g : Nat) (s : ByteArray) (at_ : Nat) (err most : Int) (w : World) (h : IsR 157 w g s at_ err) (hm : 0 ≤ most) (hm2 : most ≤ 4611686018427387904) :
    Calls Try.prog 197 #[.pointer (some ⟨g, 0, none⟩), .int .i64 most] w fun e w' => e = .returned (.string (rdT s at_ err most).1) ∧ RKp 157 g s w (rdT s at_ err most).2.1 (rdT s at_ err most).2.2 w' := by
  obtain ⟨c0, c1, c2, f0, f1, f2, h1, h2, hgl⟩ := h.open_
  have hmost : IntKind.u64.wrap most = most := by rw [wrap_u64]; omega
  by_cases he : err = 0
  · subst he
    have hU := refReadUint g s at_ 0 most w h
    unfold rdU at hU
    simp only [if_true] at hU
    by_cases hu : (uvar s at_ most).1 = 0
    · obtain ⟨o1, o2⟩ := uvar_ok hu
      rw [hu] at hU
      by_cases hs : at_ + (uvar s at_ most).2.2 + (uvar s at_ most).2.1 ≤ s.size
      · have hr : Hid (rdT s at_ 0 most = (s.extract (at_ + (uvar s at_ most).2.2) (at_ + (uvar s at_ most).2.2 + (uvar s at_ most).2.1), at_ + (uvar s at_ most).2.2 + (uvar s at_ most).2.1, 0)) := by
          unfold Hid rdT; rw [if_pos rfl, if_pos hu, if_pos hs]
        have HU := Lib.hid hU
        clear hu hU
        generalize (uvar s at_ most).2.1 = v at *
        generalize (uvar s at_ most).2.2 = k at *
        go_enter Try.func197, Try.ntmps197
        go_wp2_with (first | (go_at_call 195; refine HU.out.mono ?_; rintro e w2 ⟨rfl, hw2⟩) | (go_at_call 257; refine (refRawYes g s (at_ + k) (v : Int) v rfl w2 hw2.1 hs).mono ?_; rintro e w3 ⟨rfl, hw3⟩; obtain ⟨e0, e1, e2, p0, p1, p2, -, -, -⟩ := hw3.1.open_))
        go_ret
        exact ⟨by rw [hr.out]; rfl, by rw [hr.out]; exact ⟨hw3.1, hw2.2.trans hw3.2 (fun _ _ h => h)⟩⟩
      · have hr : Hid (rdT s at_ 0 most = (⟨#[]⟩, at_, 10)) := by
          unfold Hid rdT; rw [if_pos rfl, if_pos hu, if_neg hs]
        have HU := Lib.hid hU
        clear hu hU
        generalize (uvar s at_ most).2.1 = v at *
        generalize (uvar s at_ most).2.2 = k at *
        go_enter Try.func197, Try.ntmps197
        go_wp2_with (first | (go_at_call 195; refine HU.out.mono ?_; rintro e w2 ⟨rfl, hw2⟩) | (go_at_call 257; refine (refRawShort g s (at_ + k) (v : Int) v rfl w2 hw2.1 (by omega)).mono ?_; rintro e w3 ⟨rfl, hw3⟩; obtain ⟨e0, e1, e2, p0, p1, p2, -, -, -⟩ := hw3.1.open_))
        go_ret
        exact ⟨by rw [hr.out]; rfl, by rw [hr.out]; exact ⟨hw3.1.setAt at_ h1, Kp.set (P := fun k => k = g) (hw2.2.trans hw3.2 (fun _ _ h => h)) (.inl rfl) _⟩⟩
    · have hno := uvar_no hu
      have hr : Hid (rdT s at_ 0 most = (⟨#[]⟩, at_, (uvar s at_ most).1)) := by
        unfold Hid rdT; rw [if_pos rfl, if_neg hu]
      rw [hno] at hU
      have hU' : Calls Try.prog 195 #[.pointer (some ⟨g, 0, none⟩), .int .u64 most] w fun e w' => e = .returned (.int .u64 0) ∧ RKp 157 g s w at_ (uvar s at_ most).1 w' := hU
      clear hU
      have HU := Lib.hid hU'
      clear hU'
      have HN := Lib.hid hu
      have hd : ((uvar s at_ most).1 != 0) = true := by simpa using hu
      clear hno hu
      generalize (uvar s at_ most).1 = er at *
      go_enter Try.func197, Try.ntmps197
      go_wp2_with (first | (go_at_call 195; refine HU.out.mono ?_; rintro e w2 ⟨rfl, hw2⟩) | (go_at_call 257; refine (refRawNo g s at_ er (0 : Int) 0 rfl w2 hw2.1 HN.out).mono ?_; rintro e w3 ⟨rfl, hw3⟩; obtain ⟨e0, e1, e2, p0, p1, p2, -, -, -⟩ := hw3.1.open_))
      go_ret
      exact ⟨by rw [hr.out]; rfl, by rw [hr.out]; exact ⟨hw3.1.setAt at_ h1, Kp.set (P := fun k => k = g) (hw2.2.trans hw3.2 (fun _ _ h => h)) (.inl rfl) _⟩⟩
  · have hr : Hid (rdT s at_ err most = (⟨#[]⟩, at_, err)) := by unfold Hid rdT; rw [if_neg he]
    have hU := refReadUint g s at_ err most w h
    unfold rdU at hU
    rw [if_neg he] at hU
    have hU' : Calls Try.prog 195 #[.pointer (some ⟨g, 0, none⟩), .int .u64 most] w fun e w' => e = .returned (.int .u64 0) ∧ RKp 157 g s w at_ err w' := hU
    clear hU
    have HU := Lib.hid hU'
    have HN := Lib.hid he
    have hd : (err != 0) = true := by simpa using he
    clear hU' he
    go_enter Try.func197, Try.ntmps197
    go_wp2_with (first | (go_at_call 195; refine HU.out.mono ?_; rintro e w2 ⟨rfl, hw2⟩) | (go_at_call 257; refine (refRawNo g s at_ err (0 : Int) 0 rfl w2 hw2.1 HN.out).mono ?_; rintro e w3 ⟨rfl, hw3⟩; obtain ⟨e0, e1, e2, p0, p1, p2, -, -, -⟩ := hw3.1.open_))
    go_ret
    exact ⟨by rw [hr.out]; rfl, by rw [hr.out]; exact ⟨hw3.1.setAt at_ h1, Kp.set (P := fun k => k = g) (hw2.2.trans hw3.2 (fun _ _ h => h)) (.inl rfl) _⟩⟩
end Go.Proofs.Ytfdiedcleggfnaa
