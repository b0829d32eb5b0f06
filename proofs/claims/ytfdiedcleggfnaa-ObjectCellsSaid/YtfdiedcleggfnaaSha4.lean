/- The reference's block, walked, on. -/
import Derived.Test.YtfdiedcleggfnaaSha3
namespace Go.Proofs.Ytfdiedcleggfnaa
open Go.RowKit Go.Sort

theorem iw_add5 (a b c d e : W32) : (iw a + iw b + iw c + iw d + iw e) % 4294967296 = iw (a + b + c + d + e) := by rw [← iw_add', ← iw_add', ← iw_add', ← iw_add']; omega
/-- What lies in memory in the rounds: the words, the table, the state, the state that came in, the result. -/
structure StR (w W : World) (gK gW : Nat) (m : Nat → W32) (s st : S8) : Prop where
  m : Blk W gW (arrV 64 (wAt m)) 321
  t : Blk W (gW + 1) (s8V s) 299
  k : Blk W gK kshV 321
  o : Blk W w.heap.size (s8V st) 299
  b : Below w.heap.size w W
  q : Blk W (w.heap.size + 1) z8V 299
  l1 : w.heap.size + 1 < gK
  l2 : gK < gW
theorem StR.drewN {w W : World} {gK gW : Nat} {m : Nat → W32} {s st : S8} (h : StR w W gK gW m s st) (n : Nat) : StR w (W.drewN n) gK gW m s st :=
  ⟨h.m.drewN n, h.t.drewN n, h.k.drewN n, h.o.drewN n, bl_drewN h.b n, h.q.drewN n, h.l1, h.l2⟩
theorem StR.row {w W : World} {gK gW : Nat} {m : Nat → W32} {s st : S8} (h : StR w W gK gW m s st) (s' : S8) : StR w (W.setRow (gW + 1) (s8V s')) gK gW m s' st := by
  have h1 := h.l1
  have h2 := h.l2
  exact ⟨h.m.rowO (by omega), h.t.row, h.k.rowO (by omega), h.o.rowO (by omega), bl_row h.b (by omega) _, h.q.rowO (by omega), h1, h2⟩
theorem StR.st {w W : World} {gK gW : Nat} {m : Nat → W32} {s st : S8} (h : StR w W gK gW m s st) (s' : S8) (i : Nat) (v : Value) (e : (s8V s).setIfInBounds i v = s8V s') : StR w (W.setCell ⟨gW + 1, i, none⟩ v) gK gW m s' st := by
  have h1 := h.l1
  have h2 := h.l2
  exact ⟨h.m.setO _ _ (by dsimp only; omega), by have := h.t.set i v; rw [e] at this; exact this, h.k.setO _ _ (by dsimp only; omega), h.o.setO _ _ (by dsimp only; omega), bl_set h.b (by dsimp only; omega) _, h.q.setO _ _ (by dsimp only; omega), h1, h2⟩
theorem StR.sc {w W : World} {gK gW : Nat} {m : Nat → W32} {s st : S8} (h : StR w W gK gW m s st) : W.cell? ⟨gW + 1, 0, none⟩ = some (.int .u32 (iw s.a)) ∧ W.cell? ⟨gW + 1, 1, none⟩ = some (.int .u32 (iw s.b)) ∧ W.cell? ⟨gW + 1, 2, none⟩ = some (.int .u32 (iw s.c)) ∧ W.cell? ⟨gW + 1, 3, none⟩ = some (.int .u32 (iw s.d)) ∧
    W.cell? ⟨gW + 1, 4, none⟩ = some (.int .u32 (iw s.e)) ∧ W.cell? ⟨gW + 1, 5, none⟩ = some (.int .u32 (iw s.f)) ∧ W.cell? ⟨gW + 1, 6, none⟩ = some (.int .u32 (iw s.g)) ∧ W.cell? ⟨gW + 1, 7, none⟩ = some (.int .u32 (iw s.h)) :=
  ⟨h.t.c 0, h.t.c 1, h.t.c 2, h.t.c 3, h.t.c 4, h.t.c 5, h.t.c 6, h.t.c 7⟩
theorem roundW_eq2 {s : S8} {kk wk T U : W32} (h1 : s.h + (rotR s.e 6 ^^^ rotR s.e 11 ^^^ rotR s.e 25) + chW s.e s.f s.g + kk + wk = T)
    (h3 : (rotR s.a 2 ^^^ rotR s.a 13 ^^^ rotR s.a 22) + maW s.a s.b s.c = U) : roundW s kk wk = ⟨T + U, s.a, s.b, s.c, s.d + T, s.e, s.f, s.g⟩ := by
  have e1 : tW s kk wk = T := by rw [← h1]; rfl
  have e2 : uW s = U := by rw [← h3]; rfl
  unfold roundW; rw [e1, e2]

set_option maxRecDepth 100000 in
set_option maxHeartbeats 2000000 in
theorem refMade (st : S8) (b o c : Nat) (f : Nat → UInt8) (w : World) (hr : RdB w b o 64 f) :
    Calls Try.prog 266 #[.agg (s8V st), .slice (some ⟨b, o, none⟩) 64 c] w fun e w' => e = .returned (.agg (s8V (stepW st (mW f)))) ∧ Below w.heap.size w w' := by
  have hB0 := Below.refl w.heap.size w
  have hB2 : Below w.heap.size w ((w.alloc (.cells (s8V st) 299)).alloc (.cells z8V 299)) := (hB0.alloc (Nat.le_refl _) _).alloc (by simp) _
  have bO := (Blk.new w (s8V st) 299).alloc (.cells z8V 299)
  have bQ := Blk.new' (w := w.alloc (.cells (s8V st) 299)) (g := w.heap.size + 1) z8V 299 (by simp)
  unfold s8V z8V at hB2 bO bQ
  unfold s8V
  go_enter Try.func266, Try.ntmps266
  go_wp2_with (first
    | (go_at_call 292; refine (refCubes _).mono ?_; rintro e w2 ⟨rfl, hb2⟩; have B2 := hB2.trans (hb2.mono hB2.size); have bO2 := bO.kp (Kp.of_below (P := fun _ => False) hb2) id; have bQ2 := bQ.kp (Kp.of_below (P := fun _ => False) hb2) id; have hS2 := hb2.size; simp only [World.size_alloc] at hS2)
    | (refine wpList_store_rowTo (by rfl) 321 _ _ (by rfl) (by rfl) w2.heap.size kshV (by rfl) (by rfl) 321 z64 (heap_alloc_new _ _) (by kernel_rfl) (by rfl) kshV_one ?_; rw [World.setRow_alloc_new])
    | (go_at_call 293; refine (refWords _ _ _ f _ ((hr.mono B2).mono ((Below.refl _ _).alloc (Nat.le_refl _) _))).mono ?_; rintro e w3 ⟨rfl, hb3⟩; have bK3 := (Blk.new w2 kshV 321).kp (Kp.of_below (P := fun _ => False) hb3) id; have K3 := Kp.of_below (P := fun _ => False) (((Below.refl w2.heap.size w2).alloc (Nat.le_refl _) (.cells kshV 321)).trans (hb3.mono (by simp))); have bO3 := bO2.kp K3 id; have bQ3 := bQ2.kp K3 id; have B3 := B2.trans ((((Below.refl w2.heap.size w2).alloc (Nat.le_refl _) (.cells kshV 321)).trans (hb3.mono (by simp))).mono B2.size); have hS3 := hb3.size; simp only [World.size_alloc] at hS3; have hz3 : w.heap.size < w3.heap.size := (by omega); have q0 := bO3.c 0; have q1 := bO3.c 1; have q2 := bO3.c 2; have q3 := bO3.c 3; have q4 := bO3.c 4; have q5 := bO3.c 5; have q6 := bO3.c 6; have q7 := bO3.c 7; dsimp at q0 q1 q2 q3 q4 q5 q6 q7)
    | (refine wpList_store_rowTo (by rfl) 321 _ _ (by rfl) (by rfl) w3.heap.size (arrV 64 (wAt (mW f))) (by rfl) (by rfl) 321 z64 (heap_alloc_new _ _) (by rw [arrV_size]; kernel_rfl) (by rw [arrV_size]; rfl) (arrV_one _ _) ?_; rw [World.setRow_alloc_new]))
  have M : StR w ((w3.alloc (.cells (arrV 64 (wAt (mW f))) 321)).alloc (.cells (s8V st) 299)) w2.heap.size w3.heap.size (mW f) st st :=
    ⟨(Blk.new _ _ _).alloc _, Blk.new' _ _ (by simp), (bK3.alloc _).alloc _, (bO3.alloc _).alloc _, (B3.alloc B3.size _).alloc (by simp; have := B3.size; omega) _, (bQ3.alloc _).alloc _, by omega, by omega⟩
  clear bK3 K3 bO3 bQ3 B3 bO2 bQ2 B2 bO bQ hB2 hB0 q0 q1 q2 q3 q4 q5 q6 q7 hS2 hz3 hb2
  generalize w2.heap.size = gK at *
  generalize w3.heap.size = gW at *
  go_loopw [8] (fun i W => ∃ k : Nat, i = .int .i64 k ∧ k ≤ 64 ∧ StR w W gK gW (mW f) (roundsW (mW f) st k) st) (fun i _ => 64 - (intOf i).toNat)
  case atStart => exact ⟨0, rfl, by omega, M⟩
  case round =>
    obtain ⟨k, rfl, hk, M1⟩ := hrel
    by_cases hlt : k < 64
    · have x1 := M1.k.c k
      have x2 := M1.m.c k
      rw [kshV_at hlt] at x1
      rw [arrV_at _ _ hlt] at x2
      generalize hm : mW f = m at *
      generalize hs : roundsW m st k = s at *
      have HS := Lib.hid hs
      have HM := Lib.hid hm
      clear hs hm
      generalize hwk : wAt m k = Wk at *
      have HWk := Lib.hid hwk
      clear hwk
      obtain ⟨y0, y1, y2, y3, y4, y5, y6, y7⟩ := M1.sc
      have i1 := iw_xor (rotR s.e 6) (rotR s.e 11)
      have i2 := iw_xor (rotR s.e 6 ^^^ rotR s.e 11) (rotR s.e 25)
      have i3 := iw_and s.e s.f
      have i4 : bits .and .u32 (bits .xor .u32 IntKind.u32.max (iw s.e)) (iw s.g) = iw (~~~s.e &&& s.g) := by rw [show IntKind.u32.max = 4294967295 from by decide, iw_not, iw_and]
      have i4' : bits .and .u32 (bits .xor .u32 (if IntKind.u32.signed = true then -1 else IntKind.u32.max) (iw s.e)) (iw s.g) = iw (~~~s.e &&& s.g) := i4
      have i5 : bits .xor .u32 (iw (s.e &&& s.f)) (iw (~~~s.e &&& s.g)) = iw (chW s.e s.f s.g) := by rw [iw_xor]; rfl
      have i6 := iw_add5 s.h (rotR s.e 6 ^^^ rotR s.e 11 ^^^ rotR s.e 25) (chW s.e s.f s.g) (kAt k) Wk
      go_wp2
      go_quiet (exact Calls.quiet_of (rightQ _ _ _ (by omega) (by omega)))
      generalize hg5 : World.drewN _ _ = w5
      have M5 : StR w w5 gK gW m s st := by rw [← hg5]; exact M1.drewN _
      have HG5 := Lib.hid hg5
      clear hg5 x1 x2 y0 y1 y2 y3 y4 y5 y6 y7
      generalize ht : s.h + (rotR s.e 6 ^^^ rotR s.e 11 ^^^ rotR s.e 25) + chW s.e s.f s.g + kAt k + Wk = T at *
      have HT := Lib.hid ht
      clear ht
      have k1 := iw_xor (rotR s.a 2) (rotR s.a 13)
      have k2 := iw_xor (rotR s.a 2 ^^^ rotR s.a 13) (rotR s.a 22)
      have k3 := iw_and s.a s.b
      have k4 := iw_and s.a s.c
      have k5 := iw_and s.b s.c
      have j1 := iw_xor (s.a &&& s.b) (s.a &&& s.c)
      have j2 : bits .xor .u32 (iw (s.a &&& s.b ^^^ s.a &&& s.c)) (iw (s.b &&& s.c)) = iw (maW s.a s.b s.c) := by rw [iw_xor]; rfl
      have j3 := iw_add' (rotR s.a 2 ^^^ rotR s.a 13 ^^^ rotR s.a 22) (maW s.a s.b s.c)
      have j4 := iw_add' T ((rotR s.a 2 ^^^ rotR s.a 13 ^^^ rotR s.a 22) + maW s.a s.b s.c)
      have j5 := iw_add' s.d T
      obtain ⟨y0, y1, y2, y3, y4, y5, y6, y7⟩ := M5.sc
      have f0 := M5.t.f 0
      have f1 := M5.t.f 1
      have f2 := M5.t.f 2
      have f3 := M5.t.f 3
      have f4 := M5.t.f 4
      have f5 := M5.t.f 5
      have f6 := M5.t.f 6
      have f7 := M5.t.f 7
      go_wp2_with (first
        | (go_at_call 294; (with_reducible refine (rightQ _ _ _ (by omega) (by omega)).mono ?_); rintro e w' ⟨rfl, nr, rfl⟩))
      have HE1 : Hid (roundsW m st (k + 1) = ⟨T + ((rotR s.a 2 ^^^ rotR s.a 13 ^^^ rotR s.a 22) + maW s.a s.b s.c), s.a, s.b, s.c, s.d + T, s.e, s.f, s.g⟩) := by
        show roundW (roundsW m st k) (kAt k) (wAt m k) = _
        rw [HS.out, HWk.out]
        exact roundW_eq2 HT.out rfl
      go_roundw
      case rel =>
        refine ⟨k + 1, by go_num, by omega, ?_⟩
        rw [HE1.out]
        exact (((((((((M5.drewN _).st ⟨T + ((rotR s.a 2 ^^^ rotR s.a 13 ^^^ rotR s.a 22) + maW s.a s.b s.c), s.b, s.c, s.d, s.e, s.f, s.g, s.h⟩ 0 _ rfl).st ⟨T + ((rotR s.a 2 ^^^ rotR s.a 13 ^^^ rotR s.a 22) + maW s.a s.b s.c), s.a, s.c, s.d, s.e, s.f, s.g, s.h⟩ 1 _ rfl).st ⟨T + ((rotR s.a 2 ^^^ rotR s.a 13 ^^^ rotR s.a 22) + maW s.a s.b s.c), s.a, s.b, s.d, s.e, s.f, s.g, s.h⟩ 2 _ rfl).st ⟨T + ((rotR s.a 2 ^^^ rotR s.a 13 ^^^ rotR s.a 22) + maW s.a s.b s.c), s.a, s.b, s.c, s.e, s.f, s.g, s.h⟩ 3 _ rfl).st ⟨T + ((rotR s.a 2 ^^^ rotR s.a 13 ^^^ rotR s.a 22) + maW s.a s.b s.c), s.a, s.b, s.c, s.d + T, s.f, s.g, s.h⟩ 4 _ rfl).st ⟨T + ((rotR s.a 2 ^^^ rotR s.a 13 ^^^ rotR s.a 22) + maW s.a s.b s.c), s.a, s.b, s.c, s.d + T, s.e, s.g, s.h⟩ 5 _ rfl).st ⟨T + ((rotR s.a 2 ^^^ rotR s.a 13 ^^^ rotR s.a 22) + maW s.a s.b s.c), s.a, s.b, s.c, s.d + T, s.e, s.f, s.h⟩ 6 _ rfl).st ⟨T + ((rotR s.a 2 ^^^ rotR s.a 13 ^^^ rotR s.a 22) + maW s.a s.b s.c), s.a, s.b, s.c, s.d + T, s.e, s.f, s.g⟩ 7 _ rfl)
      case measure => simp [intOf]; omega
    · obtain rfl : k = 64 := by omega
      generalize hS : roundsW (mW f) st 64 = S at *
      have HS := Lib.hid hS
      clear hS
      have bT := M1.t
      have bO := M1.o
      rw [s8V_arr] at bT bO
      have hB := M1.b
      have hgk := M1.l1
      have hgw := M1.l2
      have bQ := M1.q
      rw [arrV_ext 8 (s8f S) (fun j => if j < 0 then s8f S j + s8f st j else s8f S j) (fun j _ => by simp)] at bT
      go_wp2
      go_loopw [17] (fun i W => ∃ k : Nat, i = .int .i64 k ∧ k ≤ 8 ∧ Blk W (gW + 1) (arrV 8 (fun j => if j < k then s8f S j + s8f st j else s8f S j)) 299 ∧ Blk W w.heap.size (arrV 8 (s8f st)) 299 ∧ Below w.heap.size w W ∧ Blk W (w.heap.size + 1) z8V 299) (fun i _ => 8 - (intOf i).toNat)
      case atStart => exact ⟨0, rfl, by omega, bT, bO, hB, bQ⟩
      case round =>
        obtain ⟨k, rfl, hk, cT, cO, hB1, cQ⟩ := hrel
        by_cases hlt : k < 8
        · as_aux_lemma =>
          have x1 := cT.c k
          have x2 := cO.c k
          have x3 := cT.f k
          rw [arrV_at _ _ hlt] at x1 x2
          simp only [Nat.lt_irrefl, if_false] at x1
          have i1 := iw_add' (s8f S k) (s8f st k)
          go_wp2
          (refine wp_region_drew_tail 9 (by kernel_rfl) (by kernel_rfl) ?_; simp only [List.take_succ_cons, List.take_zero, List.drop_succ_cons, List.drop_zero]; (repeat (first | go_big_quiet_step (fail) | quiet_step (fail))); refine wpQuiet_nil ?_; intro _ hw'; obtain ⟨nq, hw''⟩ := hw'; subst hw'')
          go_wp2
          go_roundw
          case rel =>
            refine ⟨k + 1, by go_num, by omega, ?_, (cO.drewN nq).setO _ _ (by dsimp only; omega), bl_set (bl_drewN hB1 _) (by dsimp only; omega) _, (cQ.drewN nq).setO _ _ (by dsimp only; omega)⟩
            have h := (cT.drewN nq).set k (.int .u32 (iw (s8f S k + s8f st k)))
            rw [arrV_set] at h
            rw [arrV_ext 8 (fun j => if j < k + 1 then s8f S j + s8f st j else s8f S j) (upd (fun j => if j < k then s8f S j + s8f st j else s8f S j) k (s8f S k + s8f st k)) (fun j _ => by
              unfold upd
              by_cases e : j = k
              · subst e; simp
              · simp only [e, if_false]; congr 1; simp; omega)]
            exact h
          case measure => simp [intOf]; omega
        · as_aux_lemma =>
          obtain rfl : k = 8 := by omega
          have e : arrV 8 (fun j => if j < 8 then s8f S j + s8f st j else s8f S j) = s8V (addW S st) := by
            rw [s8V_arr]
            refine arrV_ext 8 _ _ fun j hj => ?_
            rw [if_pos hj]
            match j, hj with
            | 0, _ => rfl
            | 1, _ => rfl
            | 2, _ => rfl
            | 3, _ => rfl
            | 4, _ => rfl
            | 5, _ => rfl
            | 6, _ => rfl
            | 7, _ => rfl
          rw [e] at cT
          clear e
          have e2 : stepW st (mW f) = addW S st := by unfold stepW; rw [HS.out]
          have HE2 := Lib.hid e2
          clear e2
          generalize hs9 : addW S st = S9 at *
          have HS9 := Lib.hid hs9
          clear hs9
          go_wp2_with (first | (refine wpList_load_row (by rfl) 299 _ (by rfl) (gW + 1) (by rfl) 299 _ (0, 0) (.array 8 39) cT (by kernel_rfl) (by rfl) (by kernel_rfl) ?_) | (refine wpList_store_rowTo (by rfl) 299 _ _ (by rfl) (by rfl) (w.heap.size + 1) (s8V S9) (by rfl) (by rfl) 299 z8V cQ (by kernel_rfl) (by rfl) (s8V_one S9) ?_))
          refine retRow (g := w.heap.size + 1) (t := 299) (8, 39) (by rfl) (by rfl) (by rfl) cQ.row (by kernel_rfl) (by kernel_rfl) ?_
          refine ⟨?_, bl_row hB1 (by omega) _⟩
          rw [HE2.out]; rfl
end Go.Proofs.Ytfdiedcleggfnaa
