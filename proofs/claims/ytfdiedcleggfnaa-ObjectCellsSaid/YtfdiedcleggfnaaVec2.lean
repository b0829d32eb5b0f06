/- The vector package's Covers, and its reference. -/
import Derived.Test.YtfdiedcleggfnaaVec
namespace Go.Proofs.Ytfdiedcleggfnaa
open Go.RowKit Go.Sort

def vcovers (xs : List Dot) (d : Dot) : Bool := decide (1 ≤ d.c ∧ d.c ≤ vcount xs d.a)

attribute [local go_sem] grow_cell

set_option maxRecDepth 100000 in
set_option maxHeartbeats 2000000 in
theorem vectorCovers (A : Option Addr) (c : Nat) (xs : List Dot) (d : Dot) (w : World) (hr : RdD w A xs) (hn : xs.length ≤ 4611686018427387904) :
    Calls Try.prog 193 #[.slice A xs.length c, .agg #[.int .u32 d.a, .int .u64 d.c]] w fun e w' => e = .returned (.bool (vcovers xs d)) ∧ Below w.heap.size w w' := by
  have hB := Below.refl w.heap.size w
  by_cases h : 0 < d.c
  · have hd : decide (0 < d.c) = true := decide_eq_true h
    have he : Hid (vcovers xs d = decide (d.c ≤ vcount xs d.a)) := by unfold Hid vcovers; rw [decide_eq_decide]; omega
    go_enter Try.func193, Try.ntmps193
    go_wp2
    refine wp_region_quiet_below (by kernel_rfl) (by kernel_rfl) ?_
    repeat (quiet_step (exact Calls.regrown_of (vectorCount _ _ _ _ _ (hr.mono (by repeat first | exact hB | (refine bl_grow ?_ (by first | omega | (simp; omega) | simp) _ _) | (refine bl_alloc ?_ (by first | omega | (simp; omega)) _))) hn)))
    refine wpQuiet_nil ?_
    intro _ hw'
    obtain ⟨⟨dq, osq⟩, hw''⟩ := hw'
    subst hw''
    go_wp2
    go_ret
    exact ⟨by rw [he.out]; rfl, by repeat first | exact hB | (refine bl_grow ?_ (by first | omega | (simp; omega) | simp) _ _) | (refine bl_alloc ?_ (by first | omega | (simp; omega)) _)⟩
  · have hd : decide (0 < d.c) = false := decide_eq_false h
    have he : Hid (vcovers xs d = false) := by unfold Hid vcovers; rw [decide_eq_false_iff_not]; omega
    go_enter Try.func193, Try.ntmps193
    go_wp2
    refine wp_region_quiet_below (by kernel_rfl) (by kernel_rfl) ?_
    repeat (quiet_step (fail))
    refine wpQuiet_nil ?_
    intro _ hw'
    obtain ⟨⟨dq, osq⟩, hw''⟩ := hw'
    subst hw''
    go_wp2
    go_ret
    exact ⟨by rw [he.out]; rfl, by repeat first | exact hB | (refine bl_grow ?_ (by first | omega | (simp; omega) | simp) _ _) | (refine bl_alloc ?_ (by first | omega | (simp; omega)) _)⟩
end Go.Proofs.Ytfdiedcleggfnaa
