/- The Reader's numbers to the base 128. -/
import Derived.Test.YtfdiedcleggfnaaReader
namespace Go.Proofs.Ytfdiedcleggfnaa
open Go.RowKit Go.Sort
attribute [local go_sem] grow_cell

/-- A number to the base 128, as it is read: its error, its value, how many bytes it takes. -/
def uvarF (s : ByteArray) (at_ : Nat) (most : Int) : Nat → Nat → Nat → Int × Nat × Nat
  | 0, _, _ => (11, 0, 0)
  | f + 1, i, acc =>
    if s.size ≤ at_ + i then (10, 0, 0)
    else if i = 9 ∧ 1 < byteAt s (at_ + i) then (11, 0, 0)
    else if 128 ≤ byteAt s (at_ + i) then uvarF s at_ most f (i + 1) (byteAt s (at_ + i) % 128 * 2 ^ (7 * i) + acc)
    else if (byteAt s (at_ + i) = 0 ∧ 0 < i) ∨ most < ((byteAt s (at_ + i) % 128 * 2 ^ (7 * i) + acc : Nat) : Int) then (11, 0, 0)
    else (0, byteAt s (at_ + i) % 128 * 2 ^ (7 * i) + acc, i + 1)
def uvar (s : ByteArray) (at_ : Nat) (most : Int) : Int × Nat × Nat := uvarF s at_ most 10 0 0

set_option maxRecDepth 100000 in
set_option maxHeartbeats 2000000 in
theorem readerUintNo (g : Nat) (s : ByteArray) (at_ : Nat) (err most : Int) (w : World) (h : IsR 247 w g s at_ err) (he : err ≠ 0) :
    Calls Try.prog 109 #[.pointer (some ⟨g, 0, none⟩), .int .u64 most] w fun e w' => e = .returned (.int .u64 0) ∧ w = w' := by
  obtain ⟨c0, c1, c2, f0, f1, f2, h1, h2, hgl⟩ := h.open_
  have hd : (err != 0) = true := by simpa using he
  clear he
  go_enter Try.func109, Try.ntmps109
  go_wp2
  go_ret
  exact ⟨rfl, rfl⟩

def UPost (T : TypeId) (g : Nat) (s : ByteArray) (at_ : Nat) (w : World) (u : Int × Nat × Nat) (e : Ending) (w' : World) : Prop :=
  e = .returned (.int .u64 u.2.1) ∧ RKp T g s w (at_ + u.2.2) u.1 w'

theorem or_u64' (i x y : Nat) (hy : y < 2 ^ i) (h : x * 2 ^ i + y < 18446744073709551616) : Go.bits .or .u64 (y : Int) ((x * 2 ^ i : Nat) : Int) = ((x * 2 ^ i + y : Nat) : Int) := by
  have : Go.bits .or .u64 (y : Int) ((x * 2 ^ i : Nat) : Int) = Go.bits .or .u64 ((x * 2 ^ i : Nat) : Int) (y : Int) := by
    simp only [Go.bits]; rw [BitVec.or_comm]
  rw [this, or_u64 i x y hy h]
theorem var_step (c k acc : Nat) (hc : c < 256) (hk : k < 10) (h9 : ¬ (k = 9 ∧ 1 < c)) (ha : acc < 2 ^ (7 * k)) :
    Go.bits .or .u64 (acc : Int) (IntKind.u64.wrap (IntKind.u64.wrap (Go.bits .and .u8 (c : Int) 127) * 2 ^ (7 * k))) = ((c % 128 * 2 ^ (7 * k) + acc : Nat) : Int) ∧ c % 128 * 2 ^ (7 * k) + acc < 2 ^ (7 * (k + 1)) ∧ c % 128 * 2 ^ (7 * k) + acc < 18446744073709551616 := by
  have h1 : Go.bits .and .u8 (c : Int) 127 = ((c % 128 : Nat) : Int) := by
    have := bits_mask .u8 8 (by decide) wraps_u8 7 (by decide) (c : Int) (by omega) (by have : (2:Int)^8 = 256 := by decide
                                                                                        rw [this]; omega)
    have e : ((2 : Int) ^ 7 - 1) = 127 := by decide
    have e2 : (2 : Int) ^ 7 = 128 := by decide
    rw [e, e2] at this
    rw [this]; simp
  have hb : c % 128 * 2 ^ (7 * k) + acc < 2 ^ (7 * (k + 1)) := by
    have h2 : c % 128 + 1 ≤ 128 := by omega
    have h3 : (c % 128 + 1) * 2 ^ (7 * k) ≤ 128 * 2 ^ (7 * k) := Nat.mul_le_mul_right _ h2
    rw [Nat.add_mul] at h3
    rw [show 7 * (k + 1) = 7 * k + 7 by omega, Nat.pow_add]
    have e : (2 : Nat) ^ 7 = 128 := by decide
    rw [e]; omega
  have h64 : c % 128 * 2 ^ (7 * k) + acc < 18446744073709551616 := by
    by_cases hk9 : k = 9
    · subst hk9
      have hc1 : c ≤ 1 := by omega
      have e : (2 : Nat) ^ (7 * 9) = 9223372036854775808 := by decide
      rw [e] at ha ⊢
      have : c % 128 ≤ 1 := by omega
      have h3 : c % 128 * 9223372036854775808 ≤ 1 * 9223372036854775808 := Nat.mul_le_mul_right _ this
      omega
    · have h3 : 2 ^ (7 * (k + 1)) ≤ 2 ^ 63 := Nat.pow_le_pow_right (by decide) (by omega)
      have e : (2 : Nat) ^ 63 = 9223372036854775808 := by decide
      omega
  refine ⟨?_, hb, h64⟩
  have e : (((c % 128 : Nat) : Int) * 2 ^ (7 * k)) = ((c % 128 * 2 ^ (7 * k) : Nat) : Int) := by push_cast; rfl
  have w1 : IntKind.u64.wrap ((c % 128 : Nat) : Int) = ((c % 128 : Nat) : Int) := by rw [wrap_u64]; omega
  have w2 : IntKind.u64.wrap ((c % 128 * 2 ^ (7 * k) : Nat) : Int) = ((c % 128 * 2 ^ (7 * k) : Nat) : Int) := by rw [wrap_u64]; exact Int.emod_eq_of_lt (by omega) (by omega)
  rw [h1, w1, e, w2]
  exact or_u64' (7 * k) (c % 128) acc ha h64

set_option maxRecDepth 100000 in
set_option maxHeartbeats 2000000 in
theorem readerUint (g : Nat) (s : ByteArray) (at_ : Nat) (most : Int) (w : World) (h : IsR 247 w g s at_ 0) :
    Calls Try.prog 109 #[.pointer (some ⟨g, 0, none⟩), .int .u64 most] w (UPost 247 g s at_ w (uvar s at_ most)) := by
  obtain ⟨c0, c1, c2, f0, f1, f2, h1, h2, hgl⟩ := h.open_
  go_enter Try.func109, Try.ntmps109
  go_wp2
  clear c0 c1 c2 f0 f1 f2
  go_loopw [17, 5] (fun i v W => ∃ k acc : Nat, i = .int .i64 k ∧ v = .int .u64 acc ∧ k ≤ 10 ∧ Hid (acc < 2 ^ (7 * k)) ∧ Hid (uvarF s at_ most (10 - k) k acc = uvar s at_ most) ∧ IsR 247 W g s at_ 0 ∧ Kp (fun k => k = g) w W) (fun i _ _ => 10 - (intOf i).toNat)
  case atStart => exact ⟨0, 0, rfl, rfl, by omega, by simp [Hid], rfl, h, Kp.refl _ _⟩
  case round =>
    obtain ⟨k, acc, rfl, rfl, hk, hacc, hu, hI, hK⟩ := hrel
    obtain ⟨c0, c1, c2, f0, f1, f2, -, -, hgl'⟩ := hI.open_
    by_cases hk10 : k < 10
    · have hun : Hid (uvarF s at_ most (10 - k) k acc = uvarF s at_ most ((9 - k) + 1) k acc) := by unfold Hid; rw [show 10 - k = (9 - k) + 1 by omega]
      by_cases hsz : s.size ≤ at_ + k
      · have hd : decide ((s.size : Int) ≤ (at_ : Int) + (k : Int)) = true := decide_eq_true (by omega)
        have hfin : Hid (uvar s at_ most = (10, 0, 0)) := by unfold Hid; rw [← hu.out, hun.out, uvarF, if_pos hsz]
        go_wp2
        go_quiet (fail)
        go_wp2
        go_ret
        exact ⟨by rw [hfin.out]; rfl, by rw [hfin.out]; exact (hI.drewN _).setErr 10, Kp.set (P := fun k => k = g) (hK.drewN _) (.inl rfl) _⟩
      · have hd : decide ((s.size : Int) ≤ (at_ : Int) + (k : Int)) = false := decide_eq_false (by omega)
        have hlt : at_ + k < s.size := by omega
        have hbv : Hid (((s[at_ + k]'hlt).toNat) = byteAt s (at_ + k)) := byte_at s _ hlt
        have q1 : (0 : Int) ≤ (at_ : Int) + (k : Int) := by omega
        have q2 : (at_ : Int) + (k : Int) < (s.size : Int) := by omega
        have hbi : (((s[at_ + k]'hlt).toNat : Nat) : Int) = (byteAt s (at_ + k) : Int) := by rw [hbv.out]
        by_cases h9 : k = 9 ∧ 1 < byteAt s (at_ + k)
        · have hfin : Hid (uvar s at_ most = (11, 0, 0)) := by unfold Hid; rw [← hu.out, hun.out, uvarF, if_neg hsz, if_pos h9]
          have hd9 : ((k : Int) == 9) = true := by simp; omega
          have hb1 : (1 : Int) < (((s[at_ + k]'hlt).toNat : Nat) : Int) := by omega
          clear h9 hbi
          go_wp2
          go_quiet (fail)
          go_wp2
          go_quiet (fail)
          go_wp2
          go_ret
          exact ⟨by rw [hfin.out]; rfl, by rw [hfin.out]; exact (hI.drewN _).setErr 11, Kp.set (P := fun k => k = g) (hK.drewN _) (.inl rfl) _⟩
        · have hk9 : ∀ (_ : k = 9), (((s[at_ + k]'hlt).toNat : Nat) : Int) ≤ 1 := fun e => by
            have : ¬ 1 < byteAt s (at_ + k) := fun h => h9 ⟨e, h⟩
            omega
          by_cases h128 : 128 ≤ byteAt s (at_ + k)
          · have hd9 : ((k : Int) == 9) = false := by
              simp; intro e; have := hk9 (by omega); omega
            have hnext : Hid (uvarF s at_ most (10 - (k + 1)) (k + 1) (byteAt s (at_ + k) % 128 * 2 ^ (7 * k) + acc) = uvar s at_ most) := by
              unfold Hid; rw [← hu.out, hun.out]; rw [uvarF, if_neg hsz, if_neg h9, if_pos h128, show 10 - (k + 1) = 9 - k by omega]
            have hb1 : (128 : Int) ≤ (((s[at_ + k]'hlt).toNat : Nat) : Int) := by omega
            obtain ⟨w1, w2, w3⟩ := var_step (byteAt s (at_ + k)) k acc (byteAt_lt _ _) hk10 h9 hacc
            have W1 : Hid (Go.bits .or .u64 (acc : Int) (IntKind.u64.wrap (IntKind.u64.wrap (Go.bits .and .u8 (((s[at_ + k]'hlt).toNat : Nat) : Int) 127) * 2 ^ (7 * k))) = ((byteAt s (at_ + k) % 128 * 2 ^ (7 * k) + acc : Nat) : Int)) := by unfold Hid; rw [hbv.out]; exact w1
            have W2 : Hid (byteAt s (at_ + k) % 128 * 2 ^ (7 * k) + acc < 2 ^ (7 * (k + 1))) := w2
            have H9 := Lib.hid h9
            clear w1 w2 w3 h9
            clear hbi hk9
            go_wp2
            go_quiet (fail)
            go_wp2
            go_quiet (fail)
            go_wp2
            go_roundw
            case rel => exact ⟨k + 1, _, by go_num, by rw [W1.out], by omega, W2, hnext, hI.drewN _, hK.drewN _⟩
            case measure => simp [intOf]; omega
          · have hb1 : (((s[at_ + k]'hlt).toNat : Nat) : Int) < 128 := by omega
            by_cases e9 : k = 9
            · have hd9 : ((k : Int) == 9) = true := by simp; omega
              have hk1 : (((s[at_ + k]'hlt).toNat : Nat) : Int) ≤ 1 := hk9 e9
              have he1 : 9 ≤ k := by omega
              clear e9 hk9
              by_cases h0 : byteAt s (at_ + k) = 0 ∧ 0 < k
              · have hfin : Hid (uvar s at_ most = (11, 0, 0)) := by unfold Hid; rw [← hu.out, hun.out, uvarF, if_neg hsz, if_neg h9, if_neg h128, if_pos (.inl h0)]
                obtain ⟨w1, w2, w3⟩ := var_step (byteAt s (at_ + k)) k acc (byteAt_lt _ _) hk10 h9 hacc
                have W1 : Hid (Go.bits .or .u64 (acc : Int) (IntKind.u64.wrap (IntKind.u64.wrap (Go.bits .and .u8 (((s[at_ + k]'hlt).toNat : Nat) : Int) 127) * 2 ^ (7 * k))) = ((byteAt s (at_ + k) % 128 * 2 ^ (7 * k) + acc : Nat) : Int)) := by unfold Hid; rw [hbv.out]; exact w1
                have H9 := Lib.hid h9
                clear w1 w2 w3 h9
                have hz : (((s[at_ + k]'hlt).toNat : Nat) == 0) = true := by rw [hbv.out]; simp [h0.1]
                have hz' : ((((s[at_ + k]'hlt).toNat : Nat) : Int) == 0) = true := by rw [hbv.out]; simp [h0.1]
                have hp : (0 : Int) < k := by omega
                have hpd : decide ((0 : Int) < k) = true := decide_eq_true hp
                clear h0 hbi
                go_wp2
                go_quiet (fail)
                go_wp2
                go_quiet (fail)
                go_wp2
                go_ret
                exact ⟨by rw [hfin.out]; rfl, by rw [hfin.out]; exact (hI.drewN _).setErr 11, Kp.set (P := fun k => k = g) (hK.drewN _) (.inl rfl) _⟩
              · have H0 := Lib.hid h0
                by_cases hz : byteAt s (at_ + k) = 0
                · exact absurd ⟨hz, by omega⟩ h0
                · have hz1 : (((s[at_ + k]'hlt).toNat : Nat) == 0) = false := by rw [hbv.out]; simpa using hz
                  have hz' : ((((s[at_ + k]'hlt).toNat : Nat) : Int) == 0) = false := by rw [hbv.out]; simpa using hz
                  obtain ⟨w1, w2, w3⟩ := var_step (byteAt s (at_ + k)) k acc (byteAt_lt _ _) hk10 h9 hacc
                  have W1 : Hid (Go.bits .or .u64 (acc : Int) (IntKind.u64.wrap (IntKind.u64.wrap (Go.bits .and .u8 (((s[at_ + k]'hlt).toNat : Nat) : Int) 127) * 2 ^ (7 * k))) = ((byteAt s (at_ + k) % 128 * 2 ^ (7 * k) + acc : Nat) : Int)) := by unfold Hid; rw [hbv.out]; exact w1
                  have H9 := Lib.hid h9
                  clear w1 w2 w3 h9
                  clear hz h0
                  by_cases hm : most < ((byteAt s (at_ + k) % 128 * 2 ^ (7 * k) + acc : Nat) : Int)
                  · have hfin : Hid (uvar s at_ most = (11, 0, 0)) := by unfold Hid; rw [← hu.out, hun.out, uvarF, if_neg hsz, if_neg H9, if_neg h128, if_pos (.inr hm)]
                    have hdm : decide (most < Go.bits .or .u64 (acc : Int) (IntKind.u64.wrap (IntKind.u64.wrap (Go.bits .and .u8 (((s[at_ + k]'hlt).toNat : Nat) : Int) 127) * 2 ^ (7 * k)))) = true := by rw [W1.out]; exact decide_eq_true hm
                    clear hm hbi
                    go_wp2
                    go_quiet (fail)
                    go_wp2
                    go_quiet (fail)
                    go_wp2
                    go_ret
                    exact ⟨by rw [hfin.out]; rfl, by rw [hfin.out]; exact (hI.drewN _).setErr 11, Kp.set (P := fun k => k = g) (hK.drewN _) (.inl rfl) _⟩
                  · have hfin : Hid (uvar s at_ most = (0, byteAt s (at_ + k) % 128 * 2 ^ (7 * k) + acc, k + 1)) := by unfold Hid; rw [← hu.out, hun.out, uvarF, if_neg hsz, if_neg H9, if_neg h128, if_neg (fun h => h.elim H0.out hm)]
                    have hdm : decide (most < Go.bits .or .u64 (acc : Int) (IntKind.u64.wrap (IntKind.u64.wrap (Go.bits .and .u8 (((s[at_ + k]'hlt).toNat : Nat) : Int) 127) * 2 ^ (7 * k)))) = false := by rw [W1.out]; exact decide_eq_false hm
                    clear hm hbi
                    go_wp2
                    go_quiet (fail)
                    go_wp2
                    go_quiet (fail)
                    go_wp2
                    go_ret
                    exact ⟨by rw [hfin.out]; exact ret_int W1.out, by rw [hfin.out]; simpa [Int.add_assoc] using (hI.drewN _).setAt (at_ + (k + 1)) (by omega), Kp.set (P := fun k => k = g) (hK.drewN _) (.inl rfl) _⟩
            · have hd9 : ((k : Int) == 9) = false := by simp; omega
              clear e9 hk9
              by_cases h0 : byteAt s (at_ + k) = 0 ∧ 0 < k
              · have hfin : Hid (uvar s at_ most = (11, 0, 0)) := by unfold Hid; rw [← hu.out, hun.out, uvarF, if_neg hsz, if_neg h9, if_neg h128, if_pos (.inl h0)]
                obtain ⟨w1, w2, w3⟩ := var_step (byteAt s (at_ + k)) k acc (byteAt_lt _ _) hk10 h9 hacc
                have W1 : Hid (Go.bits .or .u64 (acc : Int) (IntKind.u64.wrap (IntKind.u64.wrap (Go.bits .and .u8 (((s[at_ + k]'hlt).toNat : Nat) : Int) 127) * 2 ^ (7 * k))) = ((byteAt s (at_ + k) % 128 * 2 ^ (7 * k) + acc : Nat) : Int)) := by unfold Hid; rw [hbv.out]; exact w1
                have H9 := Lib.hid h9
                clear w1 w2 w3 h9
                have hz : (((s[at_ + k]'hlt).toNat : Nat) == 0) = true := by rw [hbv.out]; simp [h0.1]
                have hz' : ((((s[at_ + k]'hlt).toNat : Nat) : Int) == 0) = true := by rw [hbv.out]; simp [h0.1]
                have hp : (0 : Int) < k := by omega
                have hpd : decide ((0 : Int) < k) = true := decide_eq_true hp
                clear h0 hbi
                go_wp2
                go_quiet (fail)
                go_wp2
                go_quiet (fail)
                go_wp2
                go_ret
                exact ⟨by rw [hfin.out]; rfl, by rw [hfin.out]; exact (hI.drewN _).setErr 11, Kp.set (P := fun k => k = g) (hK.drewN _) (.inl rfl) _⟩
              · have H0 := Lib.hid h0
                by_cases hz : byteAt s (at_ + k) = 0
                · have hk0 : k = 0 := by
                    rcases Nat.eq_zero_or_pos k with h | h
                    · exact h
                    · exact absurd ⟨hz, h⟩ h0
                  have hz1 : (((s[at_ + k]'hlt).toNat : Nat) == 0) = true := by rw [hbv.out]; simp [hz]
                  have hz' : ((((s[at_ + k]'hlt).toNat : Nat) : Int) == 0) = true := by rw [hbv.out]; simp [hz]
                  have hpd : decide ((0 : Int) < k) = false := decide_eq_false (by omega)
                  obtain ⟨w1, w2, w3⟩ := var_step (byteAt s (at_ + k)) k acc (byteAt_lt _ _) hk10 h9 hacc
                  have W1 : Hid (Go.bits .or .u64 (acc : Int) (IntKind.u64.wrap (IntKind.u64.wrap (Go.bits .and .u8 (((s[at_ + k]'hlt).toNat : Nat) : Int) 127) * 2 ^ (7 * k))) = ((byteAt s (at_ + k) % 128 * 2 ^ (7 * k) + acc : Nat) : Int)) := by unfold Hid; rw [hbv.out]; exact w1
                  have H9 := Lib.hid h9
                  clear w1 w2 w3 h9
                  have hpd0 : k ≤ 0 := by omega
                  clear hz hk0 h0
                  by_cases hm : most < ((byteAt s (at_ + k) % 128 * 2 ^ (7 * k) + acc : Nat) : Int)
                  · have hfin : Hid (uvar s at_ most = (11, 0, 0)) := by unfold Hid; rw [← hu.out, hun.out, uvarF, if_neg hsz, if_neg H9, if_neg h128, if_pos (.inr hm)]
                    have hdm : decide (most < Go.bits .or .u64 (acc : Int) (IntKind.u64.wrap (IntKind.u64.wrap (Go.bits .and .u8 (((s[at_ + k]'hlt).toNat : Nat) : Int) 127) * 2 ^ (7 * k)))) = true := by rw [W1.out]; exact decide_eq_true hm
                    clear hm hbi
                    go_wp2
                    go_quiet (fail)
                    go_wp2
                    go_quiet (fail)
                    go_wp2
                    go_ret
                    exact ⟨by rw [hfin.out]; rfl, by rw [hfin.out]; exact (hI.drewN _).setErr 11, Kp.set (P := fun k => k = g) (hK.drewN _) (.inl rfl) _⟩
                  · have hfin : Hid (uvar s at_ most = (0, byteAt s (at_ + k) % 128 * 2 ^ (7 * k) + acc, k + 1)) := by unfold Hid; rw [← hu.out, hun.out, uvarF, if_neg hsz, if_neg H9, if_neg h128, if_neg (fun h => h.elim H0.out hm)]
                    have hdm : decide (most < Go.bits .or .u64 (acc : Int) (IntKind.u64.wrap (IntKind.u64.wrap (Go.bits .and .u8 (((s[at_ + k]'hlt).toNat : Nat) : Int) 127) * 2 ^ (7 * k)))) = false := by rw [W1.out]; exact decide_eq_false hm
                    clear hm hbi
                    go_wp2
                    go_quiet (fail)
                    go_wp2
                    go_quiet (fail)
                    go_wp2
                    go_ret
                    exact ⟨by rw [hfin.out]; exact ret_int W1.out, by rw [hfin.out]; simpa [Int.add_assoc] using (hI.drewN _).setAt (at_ + (k + 1)) (by omega), Kp.set (P := fun k => k = g) (hK.drewN _) (.inl rfl) _⟩
                · have hz1 : (((s[at_ + k]'hlt).toNat : Nat) == 0) = false := by rw [hbv.out]; simpa using hz
                  have hz' : ((((s[at_ + k]'hlt).toNat : Nat) : Int) == 0) = false := by rw [hbv.out]; simpa using hz
                  obtain ⟨w1, w2, w3⟩ := var_step (byteAt s (at_ + k)) k acc (byteAt_lt _ _) hk10 h9 hacc
                  have W1 : Hid (Go.bits .or .u64 (acc : Int) (IntKind.u64.wrap (IntKind.u64.wrap (Go.bits .and .u8 (((s[at_ + k]'hlt).toNat : Nat) : Int) 127) * 2 ^ (7 * k))) = ((byteAt s (at_ + k) % 128 * 2 ^ (7 * k) + acc : Nat) : Int)) := by unfold Hid; rw [hbv.out]; exact w1
                  have H9 := Lib.hid h9
                  clear w1 w2 w3 h9
                  clear hz h0
                  by_cases hm : most < ((byteAt s (at_ + k) % 128 * 2 ^ (7 * k) + acc : Nat) : Int)
                  · have hfin : Hid (uvar s at_ most = (11, 0, 0)) := by unfold Hid; rw [← hu.out, hun.out, uvarF, if_neg hsz, if_neg H9, if_neg h128, if_pos (.inr hm)]
                    have hdm : decide (most < Go.bits .or .u64 (acc : Int) (IntKind.u64.wrap (IntKind.u64.wrap (Go.bits .and .u8 (((s[at_ + k]'hlt).toNat : Nat) : Int) 127) * 2 ^ (7 * k)))) = true := by rw [W1.out]; exact decide_eq_true hm
                    clear hm hbi
                    go_wp2
                    go_quiet (fail)
                    go_wp2
                    go_quiet (fail)
                    go_wp2
                    go_ret
                    exact ⟨by rw [hfin.out]; rfl, by rw [hfin.out]; exact (hI.drewN _).setErr 11, Kp.set (P := fun k => k = g) (hK.drewN _) (.inl rfl) _⟩
                  · have hfin : Hid (uvar s at_ most = (0, byteAt s (at_ + k) % 128 * 2 ^ (7 * k) + acc, k + 1)) := by unfold Hid; rw [← hu.out, hun.out, uvarF, if_neg hsz, if_neg H9, if_neg h128, if_neg (fun h => h.elim H0.out hm)]
                    have hdm : decide (most < Go.bits .or .u64 (acc : Int) (IntKind.u64.wrap (IntKind.u64.wrap (Go.bits .and .u8 (((s[at_ + k]'hlt).toNat : Nat) : Int) 127) * 2 ^ (7 * k)))) = false := by rw [W1.out]; exact decide_eq_false hm
                    clear hm hbi
                    go_wp2
                    go_quiet (fail)
                    go_wp2
                    go_quiet (fail)
                    go_wp2
                    go_ret
                    exact ⟨by rw [hfin.out]; exact ret_int W1.out, by rw [hfin.out]; simpa [Int.add_assoc] using (hI.drewN _).setAt (at_ + (k + 1)) (by omega), Kp.set (P := fun k => k = g) (hK.drewN _) (.inl rfl) _⟩
    · have hk' : k = 10 := by omega
      have hfin : Hid (uvar s at_ most = (11, 0, 0)) := by unfold Hid; rw [← hu.out, show 10 - k = 0 by omega]; rfl
      clear hk'
      go_wp2
      go_ret
      exact ⟨by rw [hfin.out]; rfl, by rw [hfin.out]; exact hI.setErr 11, Kp.set (P := fun k => k = g) hK (.inl rfl) _⟩
end Go.Proofs.Ytfdiedcleggfnaa
