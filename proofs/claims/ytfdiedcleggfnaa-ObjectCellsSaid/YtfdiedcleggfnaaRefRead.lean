/- The reference's Reader: the same answers as the program's. -/
import Derived.Test.YtfdiedcleggfnaaReader3
namespace Go.Proofs.Ytfdiedcleggfnaa
open Go.RowKit Go.Sort
attribute [local go_sem] grow_cell

def valP (s : ByteArray) (at_ : Nat) : Nat → Nat
  | 0 => 0
  | i + 1 => byteAt s (at_ + i) % 128 * 2 ^ (7 * i) + valP s at_ i
theorem uvar_prefix {s : ByteArray} {at_ : Nat} {most : Int} : ∀ i, i ≤ 9 → (∀ j, j < i → 128 ≤ byteAt s (at_ + j) ∧ at_ + j < s.size) → uvar s at_ most = uvarF s at_ most (10 - i) i (valP s at_ i)
  | 0, _, _ => rfl
  | i + 1, hi, h => by
    rw [uvar_prefix i (by omega) (fun j hj => h j (by omega))]
    obtain ⟨h1, h2⟩ := h i (by omega)
    rw [show 10 - i = (9 - i) + 1 by omega, uvarF, if_neg (by omega), if_neg (by omega), if_pos h1, show 10 - (i + 1) = 9 - i by omega]
    rfl
/-- What 'digits' tells. -/
def DigOk (s : ByteArray) (at_ n : Nat) : Prop :=
  n ≤ 10 ∧ at_ + n ≤ s.size ∧ (∀ j, j + 1 < n → 128 ≤ byteAt s (at_ + j)) ∧ ((1 ≤ n ∧ byteAt s (at_ + (n - 1)) < 128) ∨ ((n = 10 ∨ at_ + n = s.size) ∧ (1 ≤ n → 128 ≤ byteAt s (at_ + (n - 1)))))
/-- What 'number' makes of digits. -/
def numR (d : ByteArray) (most : Int) : Nat × Int :=
  if d.size < 10 ∧ (d.size = 0 ∨ 128 ≤ byteAt d (d.size - 1)) then (0, 10)
  else if (d.size = 10 ∧ 1 < byteAt d 9) ∨ (1 < d.size ∧ byteAt d (d.size - 1) = 0) then (0, 11)
  else if most < (valP d 0 d.size : Int) then (0, 11) else (valP d 0 d.size, 0)
theorem byteAt_extract (s : ByteArray) (a n i : Nat) (h : a + n ≤ s.size) (hi : i < n) : byteAt (s.extract a (a + n)) i = byteAt s (a + i) := by
  unfold byteAt
  have e : (s.extract a (a + n)).data.toList = (s.data.toList.drop a).take n := by
    simp [ByteArray.data_extract, List.take_drop]
  rw [e]
  simp only [List.getD_eq_getElem?_getD, List.getElem?_take, List.getElem?_drop, if_pos hi]
theorem valP_extract (s : ByteArray) (a n : Nat) (h : a + n ≤ s.size) : ∀ i, i ≤ n → valP (s.extract a (a + n)) 0 i = valP s a i
  | 0, _ => rfl
  | i + 1, hi => by
    rw [valP, valP, valP_extract s a n h i (by omega), Nat.zero_add, byteAt_extract s a n i h (by omega)]
/-- The reference's way to a number comes to the program's. -/
theorem num_uvar {s : ByteArray} {at_ n : Nat} {most : Int} (h : DigOk s at_ n) :
    uvar s at_ most = if (numR (s.extract at_ (at_ + n)) most).2 = 0 then (0, (numR (s.extract at_ (at_ + n)) most).1, n) else ((numR (s.extract at_ (at_ + n)) most).2, 0, 0) := by
  obtain ⟨hn, hs, hall, hend⟩ := h
  have hsz : (s.extract at_ (at_ + n)).size = n := by simp; omega
  have hN : numR (s.extract at_ (at_ + n)) most = if n < 10 ∧ (n = 0 ∨ 128 ≤ byteAt (s.extract at_ (at_ + n)) (n - 1)) then (0, 10)
      else if (n = 10 ∧ 1 < byteAt (s.extract at_ (at_ + n)) 9) ∨ (1 < n ∧ byteAt (s.extract at_ (at_ + n)) (n - 1) = 0) then (0, 11)
      else if most < (valP s at_ n : Int) then (0, 11) else (valP s at_ n, 0) := by
    unfold numR
    rw [hsz, valP_extract s at_ n hs n (Nat.le_refl _)]
  rcases hend with ⟨h1, h2⟩ | ⟨h1, h2⟩
  · -- it ends at a byte below 128
    have hb : byteAt (s.extract at_ (at_ + n)) (n - 1) = byteAt s (at_ + (n - 1)) := byteAt_extract s at_ n (n - 1) hs (by omega)
    rw [hb] at hN
    have hp := uvar_prefix (most := most) (n - 1) (by omega) (fun j hj => ⟨hall j (by omega), by omega⟩)
    rw [show 10 - (n - 1) = (10 - n) + 1 by omega, uvarF, if_neg (show ¬ s.size ≤ at_ + (n - 1) by omega)] at hp
    rw [if_neg (show ¬ (n < 10 ∧ (n = 0 ∨ 128 ≤ byteAt s (at_ + (n - 1)))) by omega)] at hN
    have hv : byteAt s (at_ + (n - 1)) % 128 * 2 ^ (7 * (n - 1)) + valP s at_ (n - 1) = valP s at_ n := by
      obtain ⟨m, rfl⟩ : ∃ m, n = m + 1 := ⟨n - 1, by omega⟩
      rfl
    rw [hv] at hp
    by_cases h9 : n = 10
    · subst h9
      rw [byteAt_extract s at_ 10 9 hs (by omega)] at hN
      by_cases hb1 : 1 < byteAt s (at_ + 9)
      · rw [if_pos (by exact ⟨rfl, hb1⟩)] at hp
        rw [if_pos (.inl ⟨rfl, hb1⟩)] at hN
        rw [hp, hN]; rfl
      · rw [if_neg (fun h => hb1 h.2), if_neg (show ¬ 128 ≤ byteAt s (at_ + (10 - 1)) by omega)] at hp
        by_cases h0 : byteAt s (at_ + (10 - 1)) = 0
        · rw [if_pos (.inl ⟨h0, by omega⟩)] at hp
          rw [if_pos (.inr ⟨by omega, h0⟩)] at hN
          rw [hp, hN]; rfl
        · rw [if_neg (show ¬ ((10 = 10 ∧ 1 < byteAt s (at_ + 9)) ∨ (1 < 10 ∧ byteAt s (at_ + (10 - 1)) = 0)) from fun h => h.elim (fun h => hb1 h.2) (fun h => h0 h.2))] at hN
          by_cases hm : most < (valP s at_ 10 : Int)
          · rw [if_pos (.inr hm)] at hp
            rw [if_pos hm] at hN
            rw [hp, hN]; rfl
          · rw [if_neg (fun h => h.elim (fun h => h0 h.1) hm)] at hp
            rw [if_neg hm] at hN
            rw [hp, hN]; rfl
    · rw [if_neg (show ¬ (n - 1 = 9 ∧ 1 < byteAt s (at_ + (n - 1))) by omega), if_neg (show ¬ 128 ≤ byteAt s (at_ + (n - 1)) by omega)] at hp
      by_cases h0 : byteAt s (at_ + (n - 1)) = 0 ∧ 0 < n - 1
      · rw [if_pos (.inl h0)] at hp
        rw [if_pos (.inr ⟨by omega, h0.1⟩)] at hN
        rw [hp, hN]; rfl
      · rw [if_neg (show ¬ ((n = 10 ∧ 1 < byteAt (s.extract at_ (at_ + n)) 9) ∨ (1 < n ∧ byteAt s (at_ + (n - 1)) = 0)) from fun h => h.elim (fun h => h9 h.1) (fun h => h0 ⟨h.2, by omega⟩))] at hN
        by_cases hm : most < (valP s at_ n : Int)
        · rw [if_pos (.inr hm)] at hp
          rw [if_pos hm] at hN
          rw [hp, hN]; rfl
        · rw [if_neg (fun h => h.elim h0 hm)] at hp
          rw [if_neg hm] at hN
          rw [hp, hN, show n - 1 + 1 = n by omega]; rfl
  · by_cases h9 : n = 10
    · subst h9
      have hb9 : 128 ≤ byteAt s (at_ + 9) := h2 (by omega)
      rw [byteAt_extract s at_ 10 9 hs (by omega), if_neg (by omega), if_pos (.inl ⟨rfl, by omega⟩)] at hN
      have hp := uvar_prefix (most := most) 9 (by omega) (fun j hj => ⟨hall j (by omega), by omega⟩)
      rw [show 10 - 9 = 0 + 1 by omega, uvarF, if_neg (by omega), if_pos ⟨rfl, by omega⟩] at hp
      rw [hp, hN]; rfl
    · have hs2 : at_ + n = s.size := by omega
      have hp := uvar_prefix (most := most) n (by omega) (fun j hj => ⟨by
        by_cases e : j + 1 < n
        · exact hall j e
        · have : j = n - 1 := by omega
          rw [this]; exact h2 (by omega), by omega⟩)
      rw [show 10 - n = (9 - n) + 1 by omega, uvarF, if_pos (by omega)] at hp
      rw [if_pos ⟨by omega, by
        by_cases e : n = 0
        · exact .inl e
        · right; rw [byteAt_extract s at_ n (n - 1) hs (by omega)]; exact h2 (by omega)⟩] at hN
      rw [hp, hN]; rfl
end Go.Proofs.Ytfdiedcleggfnaa
