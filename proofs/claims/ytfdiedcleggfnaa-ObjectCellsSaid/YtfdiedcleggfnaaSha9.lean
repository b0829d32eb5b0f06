/- The digests of a text are one: digest.Of, digest.Cut and the reference's Of, Cut. -/
import Derived.Test.YtfdiedcleggfnaaSha8
namespace Go.Proofs.Ytfdiedcleggfnaa
open Go.RowKit Go.Sort

set_option maxRecDepth 100000 in
set_option maxHeartbeats 2000000 in
theorem digOf (s : ByteArray) (w : World) (h2 : s.size ≤ 1000000000) :
    Calls Try.prog 153 #[.string s] w fun e w' => e = .returned (.agg (bytV 32 (fun j => (shaB s.data.toList).getD j 0))) ∧ Below w.heap.size w w' := by
  have hsl : s.data.toList.length = s.size := by rw [Array.length_toList]; rfl
  obtain ⟨W1, hW1⟩ : ∃ W1, W1 = w.alloc (.cells z32 208) := ⟨_, rfl⟩
  have hS1 : w.heap.size < W1.heap.size := by rw [hW1]; simp
  have hB1 : Below w.heap.size w W1 := by rw [hW1]; exact (Below.refl _ _).alloc (Nat.le_refl _) _
  have b0 : Blk W1 w.heap.size z32 208 := by rw [hW1]; exact Blk.new _ _ _
  unfold z32 at hW1
  generalize hOO : bytV 32 (fun j => (shaB s.data.toList).getD j 0) = O
  have hOs : O.size = 32 := by rw [← hOO]; exact bytV_size _ _
  have hO1 : O.all (·.oneCell') = true := by rw [← hOO]; exact bytV_one _ _
  have HOO := Lib.hid hOO
  have HOs := Lib.hid hOs
  have HO1 := Lib.hid hO1
  have HSL := Lib.hid hsl
  clear hOO hOs hO1 hsl
  go_enter Try.func153, Try.ntmps153
  go_upto_region 1 with (fail)
  rw [← hW1]
  have HW1 := Lib.hid hW1
  clear hW1
  go_wp2_with (first | (go_at_call 223; refine (hashNew _).mono ?_; rintro e w2 ⟨g, rfl, hg, H2, hb2⟩; have b2 := b0.kp (Kp.of_below (P := fun _ => False) hb2) id; have hB2 := hB1.trans (hb2.mono hB1.size)) | (go_at_call 224; refine (hashText g 0 [] s _ rfl (by exact H2) (by omega)).mono ?_; rintro e w3 ⟨rfl, H3, K3⟩; have b3 := b2.kp K3 (by omega); have hB3 := hB2.trans (K3.below hB2.size (fun i hi => by omega)); rw [Nat.zero_add, List.nil_append] at H3) | (go_at_call 225; refine (hashSum g s.size s.data.toList _ HSL.out H3 h2).mono ?_; rw [HOO.out]; rintro e w4 ⟨rfl, hb4⟩; have b4 := b3.kp (Kp.of_below (P := fun _ => False) hb4) id; have hB4 := hB3.trans (hb4.mono hB3.size)) | (refine wpList_store_rowTo (by rfl) 208 _ _ (by rfl) (by rfl) w.heap.size O (by rfl) (by rfl) 208 z32 b4 (by rw [HOs.out]; kernel_rfl) (by rw [HOs.out]; rfl) HO1.out ?_))
  exact retRow (g := w.heap.size) (t := 208) (32, 5) (by rfl) (by rfl) (by rfl) b4.row (by kernel_rfl) (by rw [HOs.out]; kernel_rfl) ⟨rfl, bl_row hB4 (Nat.le_refl _) _⟩
end Go.Proofs.Ytfdiedcleggfnaa
