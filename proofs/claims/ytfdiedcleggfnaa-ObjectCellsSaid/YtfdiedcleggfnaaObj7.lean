/- What the law asks: the same, one by one (the same lists twice). -/
import Derived.Test.YtfdiedcleggfnaaObj6
namespace Go.Proofs.Ytfdiedcleggfnaa
open Go.RowKit Go.Sort
attribute [local go_sem] grow_cell

set_option maxRecDepth 100000 in
set_option maxHeartbeats 2000000 in
theorem law13Dots (A A' : Option Addr) (n c c' : Nat) (xs : List Dot) (w : World) (hn : xs.length = n) (hr : RdD w A xs) (hr' : RdD w A' xs) (hm : n ≤ 4611686018427387904) :
    Calls Try.prog 35 #[.slice A n c, .slice A' n c'] w fun e w' => e = .returned (.bool true) ∧ Below w.heap.size w w' := by
  have hB := Below.refl w.heap.size w
  subst hn
  go_enter Try.func35, Try.ntmps35
  go_wp2
  go_loopw [5] (fun i W => ∃ p : Nat, i = .int .i64 p ∧ p ≤ xs.length ∧ Below w.heap.size w W) (fun i _ => xs.length - (intOf i).toNat)
  case atStart => exact ⟨0, rfl, Nat.zero_le _, hB⟩
  case round =>
    obtain ⟨p, rfl, hp, hB⟩ := hrel
    by_cases hlt : p < xs.length
    · obtain ⟨b, o, rfl, hb, c1, c2⟩ := (hr.mono hB).at_ hlt
      obtain ⟨b', o', rfl, hb', d1, d2⟩ := (hr'.mono hB).at_ hlt
      go_wp2
      go_quiet (fail)
      go_wp2
      go_roundw
      case rel => exact ⟨p + 1, by go_num, by omega, by repeat first | exact hB | (refine bl_drewN ?_ _) | (refine bl_drew ?_) | (refine bl_grow ?_ (by first | omega | (simp; omega) | simp) _ _) | (refine bl_set ?_ (by first | omega | (simp; omega) | simp) _) | (refine bl_alloc ?_ (by first | omega | (simp; omega) | simp) _)⟩
      case measure => simp [intOf]; omega
    · obtain rfl : p = xs.length := by omega
      go_wp2
      go_ret
      exact ⟨rfl, hB⟩
set_option maxRecDepth 100000 in
set_option maxHeartbeats 2000000 in
theorem law13Same (k : ByteArray) (A B A' B' : Option Addr) (c d c' d' : Nat) (s : St) (w : World) (hr : RdD w A s.seen) (hs : RdS w B s.sibs) (hr' : RdD w A' s.seen) (hs' : RdS w B' s.sibs)
    (hn : s.seen.length ≤ 4611686018427387904) (hm : s.sibs.length ≤ 4611686018427387904) :
    Calls Try.prog 36 #[.agg #[.string k, .slice A s.seen.length c, .slice B s.sibs.length d], .agg #[.string k, .slice A' s.seen.length c', .slice B' s.sibs.length d']] w fun e w' => e = .returned (.bool true) ∧ Below w.heap.size w w' := by
  have hB := Below.refl w.heap.size w
  go_enter Try.func36, Try.ntmps36
  go_wp2_with (go_at_call 35; (refine (law13Dots _ _ _ _ _ s.seen _ rfl (hr.mono (by repeat first | exact hB | (refine bl_drewN ?_ _) | (refine bl_drew ?_) | (refine bl_grow ?_ (by first | omega | (simp; omega) | simp) _ _) | (refine bl_set ?_ (by first | omega | (simp; omega) | simp) _) | (refine bl_alloc ?_ (by first | omega | (simp; omega) | simp) _))) (hr'.mono (by repeat first | exact hB | (refine bl_drewN ?_ _) | (refine bl_drew ?_) | (refine bl_grow ?_ (by first | omega | (simp; omega) | simp) _ _) | (refine bl_set ?_ (by first | omega | (simp; omega) | simp) _) | (refine bl_alloc ?_ (by first | omega | (simp; omega) | simp) _))) hn).mono ?_); rintro e w2 ⟨rfl, hb2⟩; have k0 : w2.cell? ⟨w.heap.size, 1, none⟩ = some (.slice A s.seen.length c) := below_cell hb2 (by go_simp); have k1 : w2.cell? ⟨w.heap.size, 2, none⟩ = some (.slice B s.sibs.length d) := below_cell hb2 (by go_simp); have k2 : w2.cell? ⟨w.heap.size + 1, 1, none⟩ = some (.slice A' s.seen.length c') := below_cell hb2 (by go_simp); have k3 : w2.cell? ⟨w.heap.size + 1, 2, none⟩ = some (.slice B' s.sibs.length d') := below_cell hb2 (by go_simp))
  have hB1 : Below w.heap.size w w2 := ((hB.alloc (Nat.le_refl _) _).alloc (by simp) _).trans (hb2.mono (by simp; omega))
  go_loopw [5] (fun i W => ∃ p : Nat, i = .int .i64 p ∧ p ≤ s.sibs.length ∧ Below w.heap.size w W ∧ W.cell? ⟨w.heap.size, 2, none⟩ = some (.slice B s.sibs.length d) ∧ W.cell? ⟨w.heap.size + 1, 2, none⟩ = some (.slice B' s.sibs.length d')) (fun i _ => s.sibs.length - (intOf i).toNat)
  case atStart => exact ⟨0, rfl, Nat.zero_le _, hB1, k1, k3⟩
  case round =>
    obtain ⟨p, rfl, hp, hB, e1, e3⟩ := hrel
    by_cases hlt : p < s.sibs.length
    · obtain ⟨b, o, rfl, hb, c1, c2, c3, c4⟩ := (hs.mono hB).at_ hlt
      obtain ⟨b', o', rfl, hb', d1, d2, d3, d4⟩ := (hs'.mono hB).at_ hlt
      go_wp2
      go_quiet (fail)
      go_wp2
      go_roundw
      case rel => exact ⟨p + 1, by go_num, by omega, by repeat first | exact hB | (refine bl_drewN ?_ _) | (refine bl_drew ?_) | (refine bl_grow ?_ (by first | omega | (simp; omega) | simp) _ _) | (refine bl_set ?_ (by first | omega | (simp; omega) | simp) _) | (refine bl_alloc ?_ (by first | omega | (simp; omega) | simp) _), by go_simp, by go_simp⟩
      case measure => simp [intOf]; omega
    · obtain rfl : p = s.sibs.length := by omega
      go_wp2
      go_ret
      exact ⟨rfl, hB⟩
end Go.Proofs.Ytfdiedcleggfnaa
