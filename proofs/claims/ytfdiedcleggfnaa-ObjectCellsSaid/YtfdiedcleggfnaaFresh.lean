/- What the law does to lists, on: fresh, lent, kept. -/
import Derived.Test.YtfdiedcleggfnaaSpoil
import Derived.Test.YtfdiedcleggfnaaRef2
namespace Go.Proofs.Ytfdiedcleggfnaa
open Go.RowKit Go.Sort

theorem ssame_self (st : St) : ssame st st = true := by simp [ssame]

set_option maxRecDepth 100000 in
set_option maxHeartbeats 2000000 in
theorem lawFresh (P1 P2 : Nat → Prop) (A1 B1 A2 B2 A3 B3 : Option Addr) (c1 d1 c2 d2 c3 d3 : Nat) (st : St) (w : World) (hw1 : ∀ x ∈ st.seen, dotWf x) (hw2 : ∀ y ∈ st.sibs, sibWf y)
    (hA : Own w P1 50 2 (.slice A1 st.seen.length c1) st.seen.length ((st.seen.map dotV).flatten)) (hB : Own w P2 145 4 (.slice B1 st.sibs.length d1) st.sibs.length ((st.sibs.map sibV).flatten))
    (hd : ∀ k, P1 k → ¬ P2 k) (hP : ∀ k, P1 k ∨ P2 k → k < w.heap.size)
    (r2 : RdD w A2 st.seen) (s2 : RdS w B2 st.sibs) (r3 : RdD w A3 st.seen) (s3 : RdS w B3 st.sibs)
    (hA2 : ∀ a, A2 = some a → ¬ (P1 a.block ∨ P2 a.block)) (hB2 : ∀ a, B2 = some a → ¬ (P1 a.block ∨ P2 a.block)) (hA3 : ∀ a, A3 = some a → ¬ (P1 a.block ∨ P2 a.block)) (hB3 : ∀ a, B3 = some a → ¬ (P1 a.block ∨ P2 a.block))
    (hn9 : st.seen.length ≤ 1000000) (hm9 : st.sibs.length ≤ 1000000) :
    Calls Try.prog 26 #[.agg #[.slice A1 st.seen.length c1, .slice B1 st.sibs.length d1], .agg #[.slice A2 st.seen.length c2, .slice B2 st.sibs.length d2], .agg #[.slice A3 st.seen.length c3, .slice B3 st.sibs.length d3], .slice none 0 0] w
      fun e w' => e = .returned (.bool true) ∧ Kp (fun k => P1 k ∨ P2 k) w w' := by
  have hB0 := Below.refl w.heap.size w
  have b1 := ((Blk.new w #[.slice A1 st.seen.length c1, .slice B1 st.sibs.length d1] 25).alloc (.cells #[.slice A2 st.seen.length c2, .slice B2 st.sibs.length d2] 25)).alloc (.cells #[.slice A3 st.seen.length c3, .slice B3 st.sibs.length d3] 25)
  have b2 := (Blk.new (w.alloc (.cells #[.slice A1 st.seen.length c1, .slice B1 st.sibs.length d1] 25)) #[.slice A2 st.seen.length c2, .slice B2 st.sibs.length d2] 25).alloc (.cells #[.slice A3 st.seen.length c3, .slice B3 st.sibs.length d3] 25)
  have b3 := Blk.new ((w.alloc (.cells #[.slice A1 st.seen.length c1, .slice B1 st.sibs.length d1] 25)).alloc (.cells #[.slice A2 st.seen.length c2, .slice B2 st.sibs.length d2] 25)) #[.slice A3 st.seen.length c3, .slice B3 st.sibs.length d3] 25
  have hBW : Below w.heap.size w (((w.alloc (.cells #[.slice A1 st.seen.length c1, .slice B1 st.sibs.length d1] 25)).alloc (.cells #[.slice A2 st.seen.length c2, .slice B2 st.sibs.length d2] 25)).alloc (.cells #[.slice A3 st.seen.length c3, .slice B3 st.sibs.length d3] 25)) :=
    ((hB0.alloc (Nat.le_refl _) _).alloc (by simp) _).alloc (by simp; omega) _
  simp only [World.size_alloc] at b1 b2 b3
  have hs := ssame_self st
  have HS := Lib.hid hs
  clear hs
  go_enter Try.func26, Try.ntmps26
  go_wp2
  generalize hW : ((w.alloc (.cells #[.slice A1 st.seen.length c1, .slice B1 st.sibs.length d1] 25)).alloc (.cells #[.slice A2 st.seen.length c2, .slice B2 st.sibs.length d2] 25)).alloc (.cells #[.slice A3 st.seen.length c3, .slice B3 st.sibs.length d3] 25) = W0 at *
  go_loopw [10] (fun i W => i = .int .i64 0 ∧ W = W0) (fun i _ => 0)
  case atStart => exact ⟨rfl, rfl⟩
  case round =>
    obtain ⟨rfl, rfl⟩ := hrel
    have hS0 := hBW.size
    have l1 := b1.lt
    have l2 := b2.lt
    have l3 := b3.lt
    have e10 := b1.c 0
    have e11 := b1.c 1
    have e20 := b2.c 0
    have e21 := b2.c 1
    have e30 := b3.c 0
    have e31 := b3.c 1
    dsimp at e10 e11 e20 e21 e30 e31
    have r1 : RdD w A1 st.seen := own_rdD hA hw1
    have s1 : RdS w B1 st.sibs := own_rdS hB hw2
    go_wp2_with (first
      | (go_at_call 25; (with_reducible refine (refSame A1 B1 A3 B3 c1 d1 c3 d3 st st wr (r1.mono hBW) (s1.mono hBW) (r3.mono hBW) (s3.mono hBW) (by omega) (by omega) (by omega) (by omega)).mono ?_); rintro e w2 ⟨rfl, hb2⟩; rw [HS.out]; have hB2' := hBW.trans (hb2.mono hS0); have K2 := Kp.of_below (P := fun _ => False) hb2; have b12 := b1.kp K2 id; have b22 := b2.kp K2 id; have b32 := b3.kp K2 id; have e20' := b22.c 0; have e21' := b22.c 1; have e30' := b32.c 0; have e31' := b32.c 1; dsimp at e20'; dsimp at e21'; dsimp at e30'; dsimp at e31')
      | (go_at_call 25; (with_reducible refine (refSame A2 B2 A3 B3 c2 d2 c3 d3 st st w2 (r2.mono hB2') (s2.mono hB2') (r3.mono hB2') (s3.mono hB2') (by omega) (by omega) (by omega) (by omega)).mono ?_); rintro e w3 ⟨rfl, hb3⟩; rw [HS.out]; have hB3' := hB2'.trans (hb3.mono hB2'.size); have K3 := Kp.of_below (P := fun _ => False) hb3; have b13 := b12.kp K3 id; have b23 := b22.kp K3 id; have b33 := b32.kp K3 id; have e10' := b13.c 0; have e11' := b13.c 1; dsimp at e10'; dsimp at e11')
      | (go_at_call 114; (refine (lawSpoil P1 P2 A1 B1 c1 d1 _ _ st.seen st.sibs w3 rfl rfl hw1 hw2 (hA.below hB3') (hB.below hB3') hd (fun k h => by have := hP k h; have := hB3'.size; omega) hn9 hm9).mono ?_); rintro e w4 ⟨rfl, K4⟩; have b24 := b23.kp K4 (fun h => by have := hP _ h; omega); have b34 := b33.kp K4 (fun h => by have := hP _ h; omega); have e204 := b24.c 0; have e214 := b24.c 1; have e304 := b34.c 0; have e314 := b34.c 1; dsimp at e204; dsimp at e214; dsimp at e304; dsimp at e314)
      | (go_at_call 25; (with_reducible refine (refSame A2 B2 A3 B3 c2 d2 c3 d3 st st w4 ((r2.mono hB3').kp K4 hA2) ((s2.mono hB3').kp K4 hB2) ((r3.mono hB3').kp K4 hA3) ((s3.mono hB3').kp K4 hB3) (by omega) (by omega) (by omega) (by omega)).mono ?_); rintro e w5 ⟨rfl, hb5⟩; rw [HS.out]))
    have KF : Kp (fun k => P1 k ∨ P2 k) w w5 := (((Kp.of_below hB3').trans K4 (fun _ _ h => h)).trans (Q := fun _ => False) (Kp.of_below hb5) (fun _ _ h => h.elim))
    go_loopw [11] (fun i W => i = .int .i64 0 ∧ W = w5) (fun i _ => 0)
    case atStart => exact ⟨rfl, rfl⟩
    case round =>
      obtain ⟨rfl, hWW⟩ := hrel
      subst hWW
      go_wp2
      go_ret
      exact ⟨rfl, KF⟩
end Go.Proofs.Ytfdiedcleggfnaa
