/- The reference's digest of a text, walked. -/
import Derived.Test.YtfdiedcleggfnaaBytes
namespace Go.Proofs.Ytfdiedcleggfnaa
open Go.RowKit Go.Sort

attribute [local go_sem] grow_cell
theorem Own.rdB {w : World} {P : Nat → Prop} {A : Option Addr} {n c : Nat} {bs : List UInt8} (h : Own w P 5 1 (.slice A n c) n (vals bs)) (hn : bs.length = n) (h0 : 0 < n) : ∃ g, A = some ⟨g, 0, none⟩ ∧ P g ∧ RdB w g 0 n (fun j => bs.getD j 0) := by
  obtain ⟨g, cap, h1, h2, h3, h4, h5⟩ := (BRow.own h hn h0).form
  cases h1
  exact ⟨g, rfl, h4, by rw [← hn]; exact h5⟩
theorem RdB.kp {w w' : World} {P : Nat → Prop} {b o n : Nat} {f : Nat → UInt8} (h : RdB w b o n f) (hk : Kp P w w') (hp : ¬ P b) : RdB w' b o n f :=
  ⟨Nat.lt_of_lt_of_le h.1 hk.size, fun j hj => hk.cell (h.2 j hj) hp⟩
theorem kp_row {w w' : World} {v : Value} (h : w.grownBy w' v.ownBlock) : Kp (fun k => v.ownBlock = some k) w w' := ⟨h.os, h.tape, h.output, h.size, fun k hk hp => h.block k hk (fun e => hp e.symm)⟩
theorem BRow.ownBlock {w : World} {P : Nat → Prop} {v : Value} {bs : List UInt8} (h : BRow w P v bs) {k : Nat} (hk : v.ownBlock = some k) : P k := by
  obtain ⟨g, cap, h1, -, -, h4, -⟩ := h.form
  subst h1; simp [Value.ownBlock] at hk; subst hk; exact h4
theorem RdB.sub {w : World} {b o n : Nat} {f : Nat → UInt8} (h : RdB w b o n f) (off m : Nat) (hm : off + m ≤ n) : RdB w b (o + off) m (fun j => f (off + j)) :=
  ⟨h.1, fun j hj => by rw [Nat.add_assoc]; exact h.2 (off + j) (by omega)⟩
/-- The state behind the first blocks of these bytes, a word's index as a function. -/
theorem mW_blk (bs : List UInt8) (i : Nat) : mW (fun j => bs.getD (64 * i + j) 0) = blkW bs i := by
  funext t; unfold mW blkW
  simp only [Nat.add_assoc]

theorem s8V_size (s : S8) : (s8V s).size = 8 := rfl
theorem byteW_int (x : W32) (i : Nat) : iw x / 2 ^ (24 - 8 * i) % 256 = ((byteW x i).toNat : Int) := by
  unfold iw byteW
  rw [UInt8.toNat_ofNat']
  have : (x.toNat : Int) / 2 ^ (24 - 8 * i) = ((x.toNat / 2 ^ (24 - 8 * i) : Nat) : Int) := by simp
  rw [this]; omega
def z32 : Array Value := #[.int .u8 0, .int .u8 0, .int .u8 0, .int .u8 0, .int .u8 0, .int .u8 0, .int .u8 0, .int .u8 0, .int .u8 0, .int .u8 0, .int .u8 0, .int .u8 0, .int .u8 0, .int .u8 0, .int .u8 0, .int .u8 0, .int .u8 0, .int .u8 0, .int .u8 0, .int .u8 0, .int .u8 0, .int .u8 0, .int .u8 0, .int .u8 0, .int .u8 0, .int .u8 0, .int .u8 0, .int .u8 0, .int .u8 0, .int .u8 0, .int .u8 0, .int .u8 0]
theorem z32_eq : z32 = bytV 32 (fun _ => 0) := rfl
set_option maxRecDepth 100000 in
set_option maxHeartbeats 2000000 in
theorem refOf (s : ByteArray) (w : World) (h1 : 1 ≤ s.size) (h2 : s.size ≤ 1000000000) :
    Calls Try.prog 213 #[.string s] w fun e w' => e = .returned (.agg (bytV 32 (fun j => (shaB s.data.toList).getD j 0))) ∧ Below w.heap.size w w' := by
  have hpad := padN_bd s.size
  have hfl := fillB_length s.size
  have hsl : s.data.toList.length = s.size := by rw [Array.length_toList]; rfl
  have HFL := Lib.hid hfl
  have HSL := Lib.hid hsl
  have hB0 : Below w.heap.size w (w.alloc (.cells z32 208)) := (Below.refl _ _).alloc (Nat.le_refl _) _
  have b0 := Blk.new w z32 208
  have bt := BRow.text (w.alloc (.cells z32 208)) s (fun k => k = w.heap.size + 1) (by simp) h2
  have hB1 := below_text (w.alloc (.cells z32 208)) s
  have hsz1 : (Lib.bytesWorld (w.alloc (.cells z32 208)) 5 s).heap.size = w.heap.size + 2 := by rw [Lib.bytesWorld_size]; simp
  have b1 := b0.kp (Kp.of_below (P := fun _ => False) hB1) id
  have hB1a := hB0.trans (hB1.mono (by simp))
  generalize hW1 : Lib.bytesWorld (w.alloc (.cells z32 208)) 5 s = W1 at *
  generalize hC1 : grownCap (w.alloc (.cells z32 208)) s.size 0 5 = C1 at *
  unfold z32 at hW1 hC1
  have e0 : (w.alloc (.cells z32 208)).heap.size = w.heap.size + 1 := by simp
  rw [e0] at bt
  clear e0 b0 hB0 hB1
  clear hfl
  go_enter Try.func213, Try.ntmps213
  go_wp2_with (first | (refine wpList_text (by rfl) (.tmp 10) (by rfl) s (by rfl) ?_; rw [hW1, hC1]) | (go_at_call 264; refine (refFill s.size _ (by omega)).mono ?_; rintro e w2 ⟨A, c, rfl, oF, hb2⟩))
  have HW1 := Lib.hid hW1
  have HC1 := Lib.hid hC1
  clear hW1 hC1
  have hS2 := hb2.size
  obtain ⟨gF, rfl, hgF, rF⟩ := oF.rdB (by rfl) (by rw [HFL.out]; omega)
  have hgF2 := rF.1
  have bt2 := bt.below hb2
  have b2 := b1.kp (Kp.of_below (P := fun _ => False) hb2) id
  have hB2 := hB1a.trans (hb2.mono hB1a.size)
  rw [hsz1] at hS2 hgF
  have HS2 := Lib.hid hsz1
  clear bt b1 hB1a hb2 oF hsz1
  rw [← hsl] at bt2
  have hLL := HFL.out
  generalize hF : fillB s.size = F at *
  have HF := Lib.hid hF
  clear hF
  have hL1 : F.length ≤ 72 := by omega
  have HLL := Lib.hid hLL
  clear hLL
  rw [hsl] at bt2
  have bt3 : BRow w2 (fun k => w.heap.size + 1 ≤ k ∧ k ≠ gF) (.slice (some ⟨w.heap.size + 1, 0, none⟩) s.size C1) (s.data.toList ++ F.take 0) := by
    rw [List.take_zero, List.append_nil]
    obtain ⟨g, cap, cur, fr, h3, h4, h5, h6, h7, h8, h9, h10⟩ := bt2
    exact ⟨g, cap, cur, fr, h3, h4, h5, h6, h7, h8, h9, by omega, by omega⟩
  clear bt2
  go_loopw [3, 5] (fun v i W => ∃ k : Nat, i = .int .i64 k ∧ k ≤ F.length ∧ BRow W (fun k => w.heap.size + 1 ≤ k ∧ k ≠ gF) v (s.data.toList ++ F.take k) ∧ RdB W gF 0 F.length (fun j => F.getD j 0) ∧ Blk W w.heap.size z32 208 ∧ Below w.heap.size w W) (fun _ i _ => F.length - (intOf i).toNat)
  case atStart => exact ⟨0, rfl, Nat.zero_le _, bt3, rF, b2, hB2⟩
  case round =>
    clear bt3 rF b2 hB2
    obtain ⟨k, rfl, hk, hv, rF, b2, hB⟩ := hrel
    have hS := hB.size
    have hl3 : (s.data.toList ++ F.take k).length = s.size + k := by rw [List.length_append, hsl, List.length_take]; omega
    obtain ⟨g, cap, rfl, hc1, hc2, hg, -⟩ := hv.form
    have hgw := rF.1
    by_cases hlt : k < F.length
    · as_aux_lemma =>
      have z0 := rF.2 k hlt
      rw [Nat.zero_add] at z0
      have HL3 := Lib.hid hl3
      clear hl3
      have hle : (s.data.toList ++ F.take k).length ≤ 1000000100 := by rw [HL3.out]; omega
      go_wp2_with (refine wpList_append_brow (by rfl) (.tmp 22) (.tmp 27) (by rfl) (fun k => w.heap.size + 1 ≤ k ∧ k ≠ gF) _ (s.data.toList ++ F.take k) (hv.below ((Below.refl _ _).alloc (Nat.le_refl _) _)) (by intro k hk; simp at hk; omega) (F.getD k 0) ⟨wr.heap.size, 0, none⟩ 1 (by rfl) (by rfl) (by go_simp) (by omega) ?_; intro v' w1 hv1 hg1)
      have K1 := kp_row hg1
      have K2 : Kp (fun k => w.heap.size + 1 ≤ k ∧ k ≠ gF) wr w1 := ((Kp.refl _ wr).alloc _).trans K1 (fun i _ hi => by
        simp only [Value.ownBlock] at hi; injection hi with hi; subst hi; exact hg)
      go_roundw
      case rel =>
        refine ⟨k + 1, by go_num, by omega, ?_, rF.kp K2 (fun h => h.2 rfl), b2.kp K2 (fun h => by omega), hB.trans (K2.below hB.size (fun i hi => by omega))⟩
        have e : F.take (k + 1) = F.take k ++ [F.getD k 0] := by
          rw [List.take_succ_eq_append_getElem hlt, List.getD_eq_getElem?_getD, List.getElem?_eq_getElem hlt]; rfl
        rw [e, ← List.append_assoc]; exact hv1
      case measure => simp [intOf]; omega
    · as_aux_lemma =>
      obtain rfl : k = F.length := by omega
      rw [List.take_length] at *
      have hT : (s.data.toList ++ F).length = s.size + F.length := by rw [List.length_append, hsl]
      have hw : (s.size + F.length) % 64 = 0 := by rw [← HF.out]; exact fill_whole _
      obtain ⟨g2, cap2, hv2, -, -, -, rT⟩ := hv.form
      cases hv2
      have hgr := rT.1
      clear hv hl3 rF
      generalize hTT : s.data.toList ++ F = T at *
      have HTT := Lib.hid hTT
      clear hTT
      obtain ⟨N, hN⟩ : ∃ N, T.length = 64 * N := ⟨T.length / 64, by omega⟩
      have HT := Lib.hid hT
      have hN1 : N ≤ 20000000 := by omega
      have hcap : 64 * N ≤ cap := by omega
      clear hT
      have HN := Lib.hid hN
      rw [hN] at rT ⊢
      clear hN hc1
      go_wp2_with (first | (go_at_call 265; refine (refStart _).mono ?_; rintro e w3 ⟨rfl, hb3⟩) | (refine wpList_store_rowTo (by rfl) 299 _ _ (by rfl) (by rfl) w3.heap.size (s8V hsh) (by rfl) (by rfl) 299 z8V (heap_alloc_new _ _) (by kernel_rfl) (by rfl) (s8V_one _) ?_; rw [World.setRow_alloc_new]))
      have rT3 := rT.mono hb3
      have b3 := b2.kp (Kp.of_below (P := fun _ => False) hb3) id
      have hB3 := hB.trans (hb3.mono hB.size)
      have hS3 := hb3.size
      have bS := Blk.new w3 (s8V hsh) 299
      have rT4 := rT3.mono ((Below.refl _ _).alloc (Nat.le_refl _) (.cells (s8V hsh) 299))
      have b4 := b3.alloc (.cells (s8V hsh) 299)
      have hB4 := hB3.alloc hB3.size (.cells (s8V hsh) 299)
      clear rT rT3 b2 b3 hB hB3 hb3
      have hgS : w.heap.size + 2 ≤ w3.heap.size := by omega
      have hgT : g < w3.heap.size := by omega
      generalize hgs : w3.heap.size = gS at *
      go_loopw [7] (fun i W => ∃ q : Nat, i = .int .i64 (64 * (q : Int)) ∧ q ≤ N ∧ Blk W gS (s8V (blocksW T q)) 299 ∧ RdB W g 0 (64 * N) (fun j => T.getD j 0) ∧ Blk W w.heap.size z32 208 ∧ Below w.heap.size w W) (fun i _ => 64 * N - (intOf i).toNat)
      case atStart => exact ⟨0, rfl, Nat.zero_le _, bS, rT4, b4, hB4⟩
      case round =>
        clear rT4 b4 hB4 bS
        obtain ⟨q, rfl, hq, bS, rT, b4, hB4⟩ := hrel
        have hS4 := hB4.size
        by_cases hlt : q < N
        · as_aux_lemma =>
          have hn0 : ¬ cap = 64 * q := by omega
          have rQ := rT.sub (64 * q) 64 (by omega)
          rw [Nat.zero_add] at rQ
          have hs64 : 64 * q + 64 - 64 * q = 64 := by omega
          have hB := Below.refl wr.heap.size wr
          have y0 := bS.c 0
          have y1 := bS.c 1
          have y2 := bS.c 2
          have y3 := bS.c 3
          have y4 := bS.c 4
          have y5 := bS.c 5
          have y6 := bS.c 6
          have y7 := bS.c 7
          dsimp [s8V] at y0 y1 y2 y3 y4 y5 y6 y7
          have hgSr : gS < wr.heap.size := bS.lt
          go_wp2
          (refine wp_region_below_tail 7 (by kernel_rfl) (by kernel_rfl) ?_; simp only [List.take_succ_cons, List.take_zero, List.drop_succ_cons, List.drop_zero]; (repeat (first | go_big_quiet_step (exact Calls.regrown_of (refMade (blocksW T q) _ _ _ _ _ (rQ.mono (by repeat first | exact hB | (refine bl_drewN ?_ _) | (refine bl_drew ?_) | (refine bl_grow ?_ (by first | omega | (simp; omega) | simp) _ _) | (refine bl_set ?_ (by first | omega | (simp; omega) | simp) _) | (refine bl_alloc ?_ (by first | omega | (simp; omega) | simp) _))))) | quiet_step (exact Calls.regrown_of (refMade (blocksW T q) _ _ _ _ _ (rQ.mono (by repeat first | exact hB | (refine bl_drewN ?_ _) | (refine bl_drew ?_) | (refine bl_grow ?_ (by first | omega | (simp; omega) | simp) _ _) | (refine bl_set ?_ (by first | omega | (simp; omega) | simp) _) | (refine bl_alloc ?_ (by first | omega | (simp; omega) | simp) _))))))); refine wpQuiet_nil ?_; intro _ hw'; obtain ⟨⟨dq, osq⟩, hw''⟩ := hw'; subst hw'')
          generalize hg5 : grow (redrawn wr dq) osq = w5
          have hb5 : Below wr.heap.size wr w5 := by rw [← hg5]; exact below_regrown wr dq osq
          have HG5 := Lib.hid hg5
          clear hg5 y0 y1 y2 y3 y4 y5 y6 y7 hB rQ
          have K5 := Kp.of_below (P := fun _ => False) hb5
          have bS5 := bS.kp K5 id
          have b5 := b4.kp K5 id
          have hB5 := hB4.trans (hb5.mono hS4)
          have rT5 := rT.mono hb5
          refine wpList_store_rowTo (by rfl) 299 _ _ (by rfl) (by rfl) gS (s8V (stepW (blocksW T q) (mW fun j => T.getD (64 * q + j) 0))) (by rfl) (by rfl) 299 (s8V (blocksW T q)) bS5 (by rw [s8V_size]; kernel_rfl) (by rw [s8V_size, s8V_size]) (s8V_one _) ?_
          have bS6 : Blk (w5.setRow gS (s8V (stepW (blocksW T q) (mW fun j => T.getD (64 * q + j) 0)))) gS (s8V (blocksW T (q + 1))) 299 := by
            have h := bS5.row (cs' := (s8V (stepW (blocksW T q) (mW fun j => T.getD (64 * q + j) 0))))
            have e : blocksW T (q + 1) = stepW (blocksW T q) (mW fun j => T.getD (64 * q + j) 0) := by rw [mW_blk]; rfl
            rw [e]; exact h
          have K6 : Kp (fun k => k = gS) w5 (w5.setRow gS (s8V (stepW (blocksW T q) (mW fun j => T.getD (64 * q + j) 0)))) := (Kp.refl _ w5).row gS _ (.inl rfl)
          have b6 := b5.kp K6 (by omega)
          have rT6 := rT5.kp K6 (by omega)
          have hB6 := bl_row hB5 (show w.heap.size ≤ gS by omega) (s8V (stepW (blocksW T q) (mW fun j => T.getD (64 * q + j) 0)))
          generalize hg7 : w5.setRow gS (s8V (stepW (blocksW T q) (mW fun j => T.getD (64 * q + j) 0))) = w7 at *
          have HG7 := Lib.hid hg7
          clear hg7 K6 bS5 b5 hB5 rT5 K5
          go_wp2
          go_roundw
          case rel => exact ⟨q + 1, by rw [show (64 * (q : Int) + 64) = 64 * ((q + 1 : Nat) : Int) by omega], by omega, bS6, rT6, b6, hB6⟩
          case measure => simp [intOf]; omega
        · as_aux_lemma =>
          obtain rfl : q = N := by omega
          rw [s8V_arr] at bS
          generalize hSS : blocksW T q = S at *
          have HSS := Lib.hid hSS
          clear hSS
          have bO := Blk.new wr z32 208
          have bS8 := bS.alloc (.cells z32 208)
          have b8 := b4.alloc (.cells z32 208)
          have hB8 := hB4.alloc hS4 (.cells z32 208)
          have hgSr : gS < wr.heap.size := bS.lt
          have hwr : w.heap.size < wr.heap.size := by omega
          rw [z32_eq, bytV_ext 32 (fun _ => 0) (fun j => if j < 0 then byteW (s8f S (j / 4)) (j % 4) else 0) (fun j _ => by simp)] at bO
          clear rT bS b4 hB4
          go_wp2
          generalize hgo : wr.heap.size = gO at *
          have HGO := Lib.hid hgo
          clear hgo
          go_loopw [9] (fun i W => ∃ k : Nat, i = .int .i64 k ∧ k ≤ 32 ∧ Blk W gO (bytV 32 (fun j => if j < k then byteW (s8f S (j / 4)) (j % 4) else 0)) 208 ∧ Blk W gS (arrV 8 (s8f S)) 299 ∧ Blk W w.heap.size z32 208 ∧ Below w.heap.size w W) (fun i _ => 32 - (intOf i).toNat)
          case atStart => exact ⟨0, rfl, by omega, bO, bS8, b8, hB8⟩
          case round =>
            clear bO bS8 b8 hB8
            obtain ⟨k, rfl, hk, bO, bS, b9, hB9⟩ := hrel
            by_cases hlt : k < 32
            · as_aux_lemma =>
              have x1 := bS.c (k / 4)
              rw [arrV_at _ _ (by omega)] at x1
              have x2 := bO.c k
              rw [bytV_at _ _ hlt] at x2
              have x3 := bO.f k
              have hv := byteW_int (s8f S (k / 4)) (k % 4)
              go_wp2
              go_roundw
              case rel =>
                refine ⟨k + 1, by go_num, by omega, ?_, bS.setO _ _ (by dsimp only; omega), b9.setO _ _ (by dsimp only; omega), bl_set hB9 (by dsimp only; omega) _⟩
                have h := bO.set k (.int .u8 ((byteW (s8f S (k / 4)) (k % 4)).toNat))
                rw [bytV_set] at h
                rw [bytV_ext 32 (fun j => if j < k + 1 then byteW (s8f S (j / 4)) (j % 4) else 0) (updB (fun j => if j < k then byteW (s8f S (j / 4)) (j % 4) else 0) k (byteW (s8f S (k / 4)) (k % 4))) (fun j _ => by
                  unfold updB
                  by_cases e : j = k
                  · subst e; simp
                  · simp only [e, if_false]; congr 1; simp; omega)]
                exact h
              case measure => simp [intOf]; omega
            · as_aux_lemma =>
              obtain rfl : k = 32 := by omega
              have e : bytV 32 (fun j => if j < 32 then byteW (s8f S (j / 4)) (j % 4) else 0) = bytV 32 (fun j => (shaB s.data.toList).getD j 0) := by
                refine bytV_ext 32 _ _ fun j hj => ?_
                rw [if_pos hj]
                unfold shaB outB
                rw [List.getD_eq_getElem?_getD, List.getElem?_map, List.getElem?_range hj, HSL.out, HF.out, HTT.out]
                have : (s.size + F.length) / 64 = q := by have := HT.out; have := HN.out; omega
                rw [this, HSS.out]; rfl
              rw [e] at bO
              generalize hOO : bytV 32 (fun j => (shaB s.data.toList).getD j 0) = O at *
              have hOs : O.size = 32 := by rw [← hOO]; exact bytV_size _ _
              have hO1 : O.all (·.oneCell') = true := by rw [← hOO]; exact bytV_one _ _
              have HOO := Lib.hid hOO
              have HOs := Lib.hid hOs
              have HO1 := Lib.hid hO1
              clear hOO hOs hO1 e
              go_wp2_with (first | (refine wpList_load_row (by rfl) 208 _ (by rfl) gO (by rfl) 208 _ (0, 0) (.array 32 5) bO (by kernel_rfl) (by rfl) (by rw [HOs.out]; kernel_rfl) ?_) | (refine wpList_store_rowTo (by rfl) 208 _ _ (by rfl) (by rfl) w.heap.size O (by rfl) (by rfl) 208 z32 b9 (by rw [HOs.out]; kernel_rfl) (by rw [HOs.out]; rfl) HO1.out ?_))
              refine retRow (g := w.heap.size) (t := 208) (32, 5) (by rfl) (by rfl) (by rfl) b9.row (by kernel_rfl) (by rw [HOs.out]; kernel_rfl) ⟨by rw [HOO.out], bl_row hB9 (Nat.le_refl _) _⟩
end Go.Proofs.Ytfdiedcleggfnaa
