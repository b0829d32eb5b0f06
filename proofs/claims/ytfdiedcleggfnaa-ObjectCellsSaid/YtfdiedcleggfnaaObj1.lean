/- What an object's cell is read by: Fixed, Raw, Left of wire.Reader; the reference's Fixed. -/
import Derived.Test.YtfdiedcleggfnaaSha10
import Derived.Test.YtfdiedcleggfnaaLaw1
namespace Go.Proofs.Ytfdiedcleggfnaa
open Go.RowKit Go.Sort

theorem hi2 (s : ByteArray) (h : 2 ≤ s.size) : hiB (s.extract 0 (0 + 2)) (s.extract 0 (0 + 2)).size = byteAt s 0 * 256 + byteAt s 1 := by
  have hsz : (s.extract 0 (0 + 2)).size = 2 := by simp; omega
  rw [hsz]
  simp only [hiB, Nat.zero_mul, Nat.zero_add]
  rw [show s.extract 0 2 = s.extract 0 (0 + 2) from rfl, byteAt_extract s 0 2 0 (by omega) (by omega), byteAt_extract s 0 2 1 (by omega) (by omega)]
/-- What Fixed(2) tells of a text's head. -/
def rdF (s : ByteArray) : Nat × Nat × Int := if 2 ≤ s.size then (byteAt s 0 * 256 + byteAt s 1, 2, 0) else (0, 0, 10)
set_option maxRecDepth 100000 in
set_option maxHeartbeats 2000000 in
theorem rFixed2 (g : Nat) (s : ByteArray) (w : World) (h : IsR 247 w g s 0 0) :
    Calls Try.prog 122 #[.pointer (some ⟨g, 0, none⟩), .int .i64 2] w fun e w' => e = .returned (.int .u64 (rdF s).1) ∧ RKp 247 g s w (rdF s).2.1 (rdF s).2.2 w' := by
  by_cases hs : 2 ≤ s.size
  · have hr : Hid (rdF s = (byteAt s 0 * 256 + byteAt s 1, 2, 0)) := if_pos hs
    have hv : Hid (((hiB (s.extract 0 (0 + 2)) (s.extract 0 (0 + 2)).size : Nat) : Int) = ((byteAt s 0 * 256 + byteAt s 1 : Nat) : Int)) := by unfold Hid; rw [hi2 s hs]
    have hs8 : (s.extract 0 (0 + 2)).size ≤ 8 := by simp; omega
    have hH : ∀ W, Calls Try.prog 200 #[.string (s.extract 0 (0 + 2))] W fun e w' => e = .returned (.int .u64 ((byteAt s 0 * 256 + byteAt s 1 : Nat) : Int)) ∧ W = w' := fun W => by
      have := wireHigh (s.extract 0 (0 + 2)) W hs8
      rwa [hv.out] at this
    have HH := Lib.hid hH
    rw [hr.out]
    clear hv hH hs8
    generalize byteAt s 0 * 256 + byteAt s 1 = N at *
    go_enter Try.func122, Try.ntmps122
    go_wp2_with (first | (go_at_call 199; (with_reducible refine (rTakeYes g s 0 2 2 rfl w h (by omega)).mono ?_); rintro e w2 ⟨rfl, hw2⟩) | (go_at_call 200; refine (HH.out _).mono ?_; rintro e w3 ⟨rfl, rfl⟩))
    go_ret
    exact ⟨rfl, hw2⟩
  · have hr : Hid (rdF s = (0, 0, 10)) := if_neg hs
    have hH := fun W => wireHigh (⟨#[]⟩ : ByteArray) W (by decide)
    have HH := Lib.hid hH
    rw [hr.out]
    clear hH
    go_enter Try.func122, Try.ntmps122
    go_wp2_with (first | (go_at_call 199; (with_reducible refine (rTakeShort g s 0 2 2 rfl w h (by omega)).mono ?_); rintro e w2 ⟨rfl, hw2⟩) | (go_at_call 200; refine (HH.out _).mono ?_; rintro e w3 ⟨rfl, rfl⟩))
    go_ret
    exact ⟨rfl, hw2⟩
set_option maxRecDepth 100000 in
set_option maxHeartbeats 2000000 in
theorem rLeft (g : Nat) (s : ByteArray) (at_ : Nat) (err : Int) (w : World) (h : IsR 247 w g s at_ err) :
    Calls Try.prog 124 #[.pointer (some ⟨g, 0, none⟩)] w fun e w' => e = .returned (.int .i64 ((s.size - at_ : Nat) : Int)) ∧ ∃ k, w' = w.drewN k := by
  obtain ⟨c0, c1, c2, f0, f1, f2, h1, h2, hgl⟩ := h.open_
  have hv : Hid (((s.size - at_ : Nat) : Int) = (s.size : Int) - (at_ : Int)) := by unfold Hid; omega
  rw [hv.out]
  go_enter Try.func124, Try.ntmps124
  go_wp2
  go_quiet (fail)
  go_wp2
  go_ret
  exact ⟨rfl, _, rfl⟩
set_option maxRecDepth 100000 in
set_option maxHeartbeats 2000000 in
theorem rRawYes (g : Nat) (s : ByteArray) (at_ n : Nat) (w : World) (h : IsR 247 w g s at_ 0) (hn : at_ + n ≤ s.size) :
    Calls Try.prog 123 #[.pointer (some ⟨g, 0, none⟩), .int .i64 n] w fun e w' => e = .returned (.string (s.extract at_ (at_ + n))) ∧ RKp 247 g s w (at_ + n) 0 w' := by
  go_enter Try.func123, Try.ntmps123
  go_wp2_with (go_at_call 199; (with_reducible refine (rTakeYes g s at_ n n rfl w h hn).mono ?_); rintro e w2 ⟨rfl, hw2⟩)
  go_ret
  exact ⟨rfl, hw2⟩
set_option maxRecDepth 100000 in
set_option maxHeartbeats 2000000 in
theorem rRawNo (g : Nat) (s : ByteArray) (at_ n : Nat) (err : Int) (w : World) (h : IsR 247 w g s at_ err) (he : err ≠ 0) :
    Calls Try.prog 123 #[.pointer (some ⟨g, 0, none⟩), .int .i64 n] w fun e w' => e = .returned (.string ⟨#[]⟩) ∧ w = w' := by
  have HE := Lib.hid he
  clear he
  go_enter Try.func123, Try.ntmps123
  go_wp2_with (go_at_call 199; (with_reducible refine (rTakeNo g s at_ err n n rfl w h HE.out).mono ?_); rintro e w2 ⟨rfl, rfl⟩)
  go_ret
  exact ⟨rfl, rfl⟩

/-- The reference's two bytes of a number. -/
def fixB (n : Nat) : List UInt8 := [UInt8.ofNat (n / 256), UInt8.ofNat n]
def fixF (n k j : Nat) : UInt8 := if 2 ≤ j + k then UInt8.ofNat (n / 256 ^ (1 - j)) else 0
set_option maxRecDepth 100000 in
set_option maxHeartbeats 2000000 in
theorem refFixed2 (n : Nat) (w : World) (hn : n < 65536) :
    Calls Try.prog 212 #[.int .u64 n, .int .i64 2] w fun e w' => e = .returned (.string (strB (fixB n))) ∧ Below w.heap.size w w' := by
  obtain ⟨i0, hi, hz0, hz1, hz2⟩ := info_parts infoU8
  have hmade : (madeCells (Value.int .u8 0).cells (2 * 1)).toList.toArray = bytV 2 (fixF n 0) := by
    apply Array.ext_getElem?
    intro i
    by_cases h : i < 2
    · rw [bytV_at _ _ h]
      have : fixF n 0 i = 0 := if_neg (by omega)
      rw [this]; simp [madeCells, Value.cells, h, Nat.mod_one]
    · have h1 : (bytV 2 (fixF n 0))[i]? = none := Array.getElem?_eq_none (by rw [bytV_size]; omega)
      rw [h1]; exact Array.getElem?_eq_none (by simp [size_madeCells]; omega)
  have HMADE := Lib.hid hmade
  clear hmade
  go_enter Try.func212, Try.ntmps212
  go_upto_region 1 with (fail)
  go_wp2_with (refine wpList_make_full w (by rfl) (.tmp 7) (.tmp 7) 210 (by rfl) 0 5 i0 (.int .u8 0) 1 Try.underlying210 hi hz0 hz1 .i64 .i64 2 2 2 (by rfl) (by rfl) rfl rfl (by rw [hz2]; omega) (by decide) (Nat.zero_le _) ?_; intro w1 hown hgrow; have b1 := blk_of_owns hown; rw [HMADE.out] at b1; have hB1 : Below w.heap.size w w1 := (Below.refl _ _).grown hgrow (Nat.le_refl _) (by intro k hk; cases hk); clear hown hgrow)
  go_loopw [0, 6] (fun v i W => ∃ k : Nat, k ≤ 2 ∧ i = .int .i64 (1 - (k : Int)) ∧ v = .int .u64 ((n / 256 ^ k : Nat) : Int) ∧ Blk W w.heap.size (bytV 2 (fixF n k)) 5 ∧ Below w.heap.size w W) (fun _ i _ => (intOf i + 1).toNat)
  case atStart => exact ⟨0, by omega, rfl, by simp, b1, hB1⟩
  case round =>
    clear b1 hB1
    obtain ⟨k, hk, rfl, rfl, b1, hB1⟩ := hrel
    by_cases hlt : k < 2
    · have z0 := b1.c (1 - k)
      rw [bytV_at _ _ (by omega)] at z0
      have f0 := b1.f (1 - k)
      have hb : n / 256 ^ k < 65536 := Nat.lt_of_le_of_lt (Nat.div_le_self _ _) hn
      generalize hV : n / 256 ^ k = V at *
      have HV := Lib.hid hV
      clear hV
      go_wp2
      go_roundw
      case rel =>
        refine ⟨k + 1, by omega, by rw [show (1 - (k : Int) - 1) = 1 - ((k + 1 : Nat) : Int) by omega], ?_, ?_, bl_set hB1 (Nat.le_refl _) _⟩
        · rw [show n / 256 ^ (k + 1) = V / 256 by rw [← HV.out, Nat.pow_succ, Nat.div_div_eq_div_mul]]; simp
        · have h := b1.set (1 - k) (.int .u8 ((UInt8.ofNat V).toNat))
          rw [bytV_set] at h
          rw [bytV_ext 2 (fixF n (k + 1)) (updB (fixF n k) (1 - k) (UInt8.ofNat V)) (fun j hj => ?_)]
          · simpa using h
          · unfold updB fixF
            by_cases e : j = 1 - k
            · rw [if_pos (by omega), if_pos e, ← HV.out]; congr 3; omega
            · rw [if_neg e]
              by_cases e2 : 2 ≤ j + k
              · rw [if_pos (by omega), if_pos e2]
              · rw [if_neg (by omega), if_neg e2]
      case measure => simp [intOf]; omega
    · obtain rfl : k = 2 := by omega
      have rB := bytV_rd b1
      have e : strB ((List.range 2).map (fixF n 2)) = strB (fixB n) := by
        unfold fixB fixF; simp [List.range_succ]
      have HE := Lib.hid e
      clear e
      go_wp2_with (refine wpList_bytes_string (by rfl) (.tmp 23) (by rfl) (f := fixF n 2) (by rfl) rB (by omega) ?_; rw [HE.out])
      go_ret
      exact ⟨rfl, hB1⟩
end Go.Proofs.Ytfdiedcleggfnaa
