/- The reference's block, walked. -/
import Derived.Test.YtfdiedcleggfnaaSha2
namespace Go.Proofs.Ytfdiedcleggfnaa
open Go.RowKit Go.Sort

theorem z64_arr : z64 = arrV 64 (fun _ => 0) := rfl
def rotR (x : W32) (y : Int) : W32 := x.rotateRight y.toNat
theorem rightQ (x : W32) (y : Int) (w : World) (h1 : 1 ≤ y) (h2 : y ≤ 31) : Calls Try.prog 294 #[.int .u32 (iw x), .int .i64 y] w fun e w' => e = .returned (.int .u32 (iw (rotR x y))) ∧ ∃ m, w' = w.drewN m := by
  obtain ⟨n, rfl⟩ : ∃ n : Nat, y = (n : Int) := ⟨y.toNat, by omega⟩
  exact refRight x n w (by omega) (by omega)

set_option maxRecDepth 100000 in
set_option maxHeartbeats 2000000 in
theorem refWords (b o c : Nat) (f : Nat → UInt8) (w : World) (hr : RdB w b o 64 f) :
    Calls Try.prog 293 #[.slice (some ⟨b, o, none⟩) 64 c] w fun e w' => e = .returned (.agg (arrV 64 (wAt (mW f)))) ∧ Below w.heap.size w w' := by
  have hB0 := Below.refl w.heap.size w
  go_enter Try.func293, Try.ntmps293
  go_wp2
  go_loopw [4] (fun i W => ∃ k : Nat, i = .int .i64 k ∧ k ≤ 64 ∧ Blk W (w.heap.size + 1) (arrV 64 (fun j => if j < k then wAt (mW f) j else 0)) 321 ∧ Blk W w.heap.size z64 321 ∧ Below w.heap.size w W) (fun i _ => 64 - (intOf i).toNat)
  case atStart => exact ⟨0, rfl, by omega, Blk.new' _ _ (by simp), (Blk.new _ _ _).alloc _, (hB0.alloc (Nat.le_refl _) _).alloc (by simp) _⟩
  case round =>
    obtain ⟨k, rfl, hk, bW, bQ, hB⟩ := hrel
    by_cases hlt : k < 64
    · as_aux_lemma =>
      have t1 := bW.c k
      rw [arrV_at _ _ hlt] at t1
      have t2 := bW.f k
      by_cases h16 : k < 16
      case' pos =>
        have hr' := hr.mono hB
        have c0 := hr'.2 (4 * k) (by omega)
        have c1 := hr'.2 (4 * k + 1) (by omega)
        have c2 := hr'.2 (4 * k + 2) (by omega)
        have c3 := hr'.2 (4 * k + 3) (by omega)
        have b0 := (f (4 * k)).toNat_lt
        have b1 := (f (4 * k + 1)).toNat_lt
        have b2 := (f (4 * k + 2)).toNat_lt
        have b3 := (f (4 * k + 3)).toNat_lt
        have hv : ((f (4 * k)).toNat : Int) * 16777216 + ((f (4 * k + 1)).toNat : Int) * 65536 + ((f (4 * k + 2)).toNat : Int) * 256 + ((f (4 * k + 3)).toNat : Int) = iw (wAt (mW f) k) := by rw [wAt_lo _ h16]; exact (iw_be4 _ _ _ _).symm
        have hbs := hr'.1
        generalize hY : wAt (mW f) k = Y at *
        have HY0 := Lib.hid hY
        clear hY
        go_wp2
        (refine wp_region_drew_tail 35 (by kernel_rfl) (by kernel_rfl) ?_; simp only [List.take_succ_cons, List.take_zero, List.drop_succ_cons, List.drop_zero]; (repeat (first | go_big_quiet_step (fail) | quiet_step (fail))); refine wpQuiet_nil ?_; intro _ hw'; obtain ⟨nq, hw''⟩ := hw'; subst hw'')
        go_wp2
      case' neg =>
        have c15 := bW.c (k - 15)
        have c2 := bW.c (k - 2)
        have c16 := bW.c (k - 16)
        have c7 := bW.c (k - 7)
        rw [arrV_at _ _ (by omega)] at c15 c2 c16 c7
        rw [if_pos (by omega)] at c15 c2 c16 c7
        have hy := wAt_hi (mW f) (show 16 ≤ k by omega)
        generalize wAt (mW f) (k - 15) = X15 at *
        generalize wAt (mW f) (k - 2) = X2 at *
        generalize wAt (mW f) (k - 16) = X16 at *
        generalize wAt (mW f) (k - 7) = X7 at *
        have i1 := iw_xor (rotR X15 7) (rotR X15 18)
        have i2 : bits .xor .u32 (iw (rotR X15 7 ^^^ rotR X15 18)) (iw X15 / 8) = iw (sg0 X15) := by rw [iw_shr3, iw_xor]; rfl
        have j1 := iw_xor (rotR X2 17) (rotR X2 19)
        have j2 : bits .xor .u32 (iw (rotR X2 17 ^^^ rotR X2 19)) (iw X2 / 1024) = iw (sg1 X2) := by rw [iw_shr10, iw_xor]; rfl
        have i3 := iw_add4 X16 (sg0 X15) X7 (sg1 X2)
        rw [← hy] at i3
        have HY := Lib.hid hy
        clear hy
        generalize hY : wAt (mW f) k = Y at *
        have HY0 := Lib.hid hY
        clear hY
        go_wp2
        (refine wp_region_drew_tail 29 (by kernel_rfl) (by kernel_rfl) ?_; simp only [List.take_succ_cons, List.take_zero, List.drop_succ_cons, List.drop_zero]; (repeat (first | go_big_quiet_step (exact Calls.quiet_of (rightQ _ _ _ (by omega) (by omega))) | quiet_step (exact Calls.quiet_of (rightQ _ _ _ (by omega) (by omega))))); refine wpQuiet_nil ?_; intro _ hw'; obtain ⟨nq, hw''⟩ := hw'; subst hw'')
        go_wp2
      all_goals
        go_roundw
        case rel =>
          refine ⟨k + 1, by go_num, by omega, ?_, (bQ.drewN nq).setO _ _ (by dsimp only; omega), bl_set (bl_drewN hB _) (by dsimp only; omega) _⟩
          have h := (bW.drewN nq).set k (.int .u32 (iw Y))
          rw [arrV_set] at h
          rw [arrV_ext 64 (fun j => if j < k + 1 then wAt (mW f) j else 0) (upd (fun j => if j < k then wAt (mW f) j else 0) k Y) (fun j _ => by
            unfold upd
            by_cases e : j = k
            · subst e; simp [HY0.out]
            · simp only [e, if_false]; congr 1; simp; omega)]
          exact h
        case measure => simp [intOf]; omega
    · as_aux_lemma =>
      obtain rfl : k = 64 := by omega
      rw [arrV_ext 64 (fun j => if j < 64 then wAt (mW f) j else 0) (wAt (mW f)) (fun j hj => if_pos hj)] at bW
      go_wp2_with (first | (refine wpList_load_row (by rfl) 321 _ (by rfl) (w.heap.size + 1) (by rfl) 321 _ (0, 0) (.array 64 39) bW (by kernel_rfl) (by rfl) (by rw [arrV_size]; kernel_rfl) ?_) | (refine wpList_store_rowTo (by rfl) 321 _ _ (by rfl) (by rfl) w.heap.size (arrV 64 (wAt (mW f))) (by rfl) (by rfl) 321 z64 bQ (by rw [arrV_size]; kernel_rfl) (by rw [arrV_size]; rfl) (arrV_one _ _) ?_))
      refine retRow (g := w.heap.size) (t := 321) (64, 39) (by rfl) (by rfl) (by rfl) bQ.row (by kernel_rfl) (by rw [arrV_size]; kernel_rfl) ⟨rfl, bl_row hB (Nat.le_refl _) _⟩
end Go.Proofs.Ytfdiedcleggfnaa
