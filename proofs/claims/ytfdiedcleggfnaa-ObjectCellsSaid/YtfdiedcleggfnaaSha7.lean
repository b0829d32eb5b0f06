/- The program's digest, walked: bytes that are put into a Hash. -/
import Derived.Test.YtfdiedcleggfnaaPart
namespace Go.Proofs.Ytfdiedcleggfnaa
open Go.RowKit Go.Sort
attribute [local go_sem] grow_cell

theorem blkW_congr {A B : List UInt8} {k : Nat} (h : ∀ j, j < 64 * (k + 1) → A.getD j 0 = B.getD j 0) (t : Nat) (ht : t < 16) : blkW A k t = blkW B k t := by
  unfold blkW; rw [h _ (by omega), h _ (by omega), h _ (by omega), h _ (by omega)]
theorem wAt_congr {m m' : Nat → W32} (h : ∀ t, t < 16 → m t = m' t) : ∀ t, wAt m t = wAt m' t := by
  have : ∀ n, wsL m n = wsL m' n := by
    intro n
    induction n with
    | zero => rfl
    | succ n ih =>
      simp only [wsL, ih]
      by_cases h16 : n < 16
      · rw [if_pos h16, if_pos h16, h n h16]
      · rw [if_neg h16, if_neg h16]
  intro t; unfold wAt; rw [this]
theorem stepW_congr {m m' : Nat → W32} (st : S8) (h : ∀ t, t < 16 → m t = m' t) : stepW st m = stepW st m' := by
  have : ∀ n, roundsW m st n = roundsW m' st n := by
    intro n
    induction n with
    | zero => rfl
    | succ n ih => show roundW _ _ _ = roundW _ _ _; rw [ih, wAt_congr h]
  unfold stepW; rw [this]
theorem blocksW_congr {A B : List UInt8} {k : Nat} (h : ∀ j, j < 64 * k → A.getD j 0 = B.getD j 0) : blocksW A k = blocksW B k := by
  induction k with
  | zero => rfl
  | succ k ih =>
    show stepW _ _ = stepW _ _
    rw [ih (fun j hj => h j (by omega)), stepW_congr _ (fun t ht => blkW_congr h t ht)]
theorem stepW_bytes (st : S8) (f g : Nat → UInt8) (h : ∀ j, j < 64 → f j = g j) : stepW st (mW f) = stepW st (mW g) :=
  stepW_congr st fun t ht => by unfold mW; rw [h _ (by omega), h _ (by omega), h _ (by omega), h _ (by omega)]

def z64b : Array Value := #[.int .u8 0, .int .u8 0, .int .u8 0, .int .u8 0, .int .u8 0, .int .u8 0, .int .u8 0, .int .u8 0, .int .u8 0, .int .u8 0, .int .u8 0, .int .u8 0, .int .u8 0, .int .u8 0, .int .u8 0, .int .u8 0, .int .u8 0, .int .u8 0, .int .u8 0, .int .u8 0, .int .u8 0, .int .u8 0, .int .u8 0, .int .u8 0, .int .u8 0, .int .u8 0, .int .u8 0, .int .u8 0, .int .u8 0, .int .u8 0, .int .u8 0, .int .u8 0, .int .u8 0, .int .u8 0, .int .u8 0, .int .u8 0, .int .u8 0, .int .u8 0, .int .u8 0, .int .u8 0, .int .u8 0, .int .u8 0, .int .u8 0, .int .u8 0, .int .u8 0, .int .u8 0, .int .u8 0, .int .u8 0, .int .u8 0, .int .u8 0, .int .u8 0, .int .u8 0, .int .u8 0, .int .u8 0, .int .u8 0, .int .u8 0, .int .u8 0, .int .u8 0, .int .u8 0, .int .u8 0, .int .u8 0, .int .u8 0, .int .u8 0, .int .u8 0]
theorem bytV_rd {w : World} {b : Nat} {n : Nat} {f : Nat → UInt8} {T : TypeId} (h : Blk w b (bytV n f) T) : RdB w b 0 n f := ⟨h.lt, fun j hj => by rw [Nat.zero_add, h.c, bytV_at _ _ hj]⟩
theorem arrayAt64 (a : Option Addr) (c : Nat) (w : World) : (Instr.arrayAt 302 (.slice a 64 c)).run Try.prog w = .ok (.pointer a) w := by
  have hu : Try.prog.underlying 302 = some (.array 64 5) := by kernel_rfl
  simp [Instr.arrayAt, run_underlying hu]
/-- A Hash in which the first q bytes of T lie; n is its count. -/
def HashAt (w : World) (h : Nat) (T : List UInt8) (q : Nat) (n : Int) : Prop :=
  ∃ F : Nat → UInt8, Blk w h (hashV (blocksW T (q / 64)) F ((q % 64 : Nat) : Int) n) 304 ∧ ∀ j, j < q % 64 → F j = T.getD (64 * (q / 64) + j) 0
theorem HashAt.congr {w : World} {h : Nat} {T T' : List UInt8} {q : Nat} {n : Int} (H : HashAt w h T q n) (e : ∀ j, j < q → T.getD j 0 = T'.getD j 0) : HashAt w h T' q n := by
  obtain ⟨F, h1, h2⟩ := H
  refine ⟨F, ?_, fun j hj => by rw [h2 j hj]; exact e _ (by omega)⟩
  rw [← blocksW_congr (A := T) (fun j hj => e j (by omega))]; exact h1
theorem HashAt.kp {w w' : World} {h : Nat} {T : List UInt8} {q : Nat} {n : Int} {P : Nat → Prop} (H : HashAt w h T q n) (hk : Kp P w w') (hp : ¬ P h) : HashAt w' h T q n := by
  obtain ⟨F, h1, h2⟩ := H
  exact ⟨F, h1.kp hk hp, h2⟩
theorem hash_cells {w : World} {h : Nat} {st : S8} {F : Nat → UInt8} {held n : Int} (b : Blk w h (hashV st F held n) 304) :
    w.cell? ⟨h, 72, none⟩ = some (.int .i64 held) ∧ w.cell? ⟨h, 73, none⟩ = some (.int .u64 n) ∧ (∀ j, j < 8 → w.cell? ⟨h, j, none⟩ = some (.int .u32 (iw (s8f st j)))) ∧ (∀ j, j < 64 → w.cell? ⟨h, 8 + j, none⟩ = some (.int .u8 (F j).toNat)) :=
  ⟨by rw [b.c]; exact fnV_at _ _ (by omega), by rw [b.c]; exact fnV_at _ _ (by omega), fun j hj => by rw [b.c]; unfold hashV; rw [fnV_at _ _ (by omega), hashF_st _ _ _ _ hj], fun j hj => by rw [b.c]; unfold hashV; rw [fnV_at _ _ (by omega), hashF_by _ _ _ _ hj]⟩

set_option maxRecDepth 100000 in
set_option maxHeartbeats 2000000 in
theorem hashWrite (hb b o c m L : Nat) (M : List UInt8) (f : Nat → UInt8) (w : World) (hm : M.length = m) (H : HashAt w hb M m m) (hr : RdB w b o L f) (hne : b ≠ hb) (hc : L ≤ c) (hc2 : c ≤ 9223372036854775807) (hL : m + L ≤ 1099511627776) :
    Calls Try.prog 268 #[.pointer (some ⟨hb, 0, none⟩), .slice (some ⟨b, o, none⟩) L c] w fun e w' => e = .returned (.tuple #[]) ∧ HashAt w' hb (M ++ (List.range L).map f) (m + L) ((m + L : Nat) : Int) ∧ Kp (fun k => k = hb) w w' := by
  have hTl : (M ++ (List.range L).map f).length = m + L := by simp [hm]
  have hT1 : ∀ j, j < m → M.getD j 0 = (M ++ (List.range L).map f).getD j 0 := fun j hj => by
    rw [List.getD_eq_getElem?_getD, List.getD_eq_getElem?_getD, List.getElem?_append_left (by omega)]
  have hT2 : ∀ j, j < L → (M ++ (List.range L).map f).getD (m + j) 0 = f j := fun j hj => by
    rw [List.getD_eq_getElem?_getD, List.getElem?_append_right (by omega), hm, Nat.add_sub_cancel_left]; simp [hj]
  have H' := H.congr hT1
  generalize M ++ (List.range L).map f = T at *
  obtain ⟨F0, bH, hF0⟩ := H'
  have hz := (hash_cells bH).2.1
  have f73 := bH.f 73
  have HT1 := Lib.hid hT1
  have HT2 := Lib.hid hT2
  have HF0 := Lib.hid hF0
  clear hT1 hT2 hF0 H hm hTl
  go_enter Try.func268, Try.ntmps268
  go_wp2
  have bH2 : Blk (w.setCell ⟨hb, 73, none⟩ (.int .u64 ((m : Int) + L))) hb (hashV (blocksW T (m / 64)) F0 ((m % 64 : Nat) : Int) ((m : Int) + L)) 304 := by
    have h := bH.set 73 (.int .u64 ((m : Int) + L)); rw [hashV_n] at h; exact h
  have K2 : Kp (fun k => k = hb) w (w.setCell ⟨hb, 73, none⟩ (.int .u64 ((m : Int) + L))) := (Kp.refl (fun k => k = hb) w).set (p := ⟨hb, 73, none⟩) (.inl rfl) _
  have H2 : HashAt (w.setCell ⟨hb, 73, none⟩ (.int .u64 ((m : Int) + L))) hb T m ((m : Int) + L) := ⟨F0, bH2, HF0.out⟩
  have hr2 := hr.kp K2 hne
  generalize World.setCell _ _ _ = w2 at *
  clear bH bH2 hz f73
  go_loopw [1] (fun v W => ∃ (i o' c' : Nat), v = .slice (some ⟨b, o', none⟩) (L - i) c' ∧ i ≤ L ∧ (i < L → o' = o + i) ∧ L - i ≤ c' ∧ c' ≤ 9223372036854775807 ∧ HashAt W hb T (m + i) ((m : Int) + L) ∧ RdB W b o L f ∧ Kp (fun k => k = hb) w W) (fun v _ => match v with | .slice _ k _ => k | _ => 0)
  case atStart => exact ⟨0, o, c, rfl, Nat.zero_le _, fun _ => rfl, hc, hc2, H2, hr2, K2⟩
  case round =>
    clear H2 hr2 K2 hr HF0
    obtain ⟨i, o', c', rfl, hi, ho', hc', hc3, H, hr, K⟩ := hrel
    by_cases hlt : i < L
    · obtain rfl := ho' hlt
      clear ho'
      obtain ⟨F, bH, hF⟩ := H
      obtain ⟨c72, c73, cst, cby⟩ := hash_cells bH
      have hd0 : decide ((0 : Int) < ((L - i : Nat) : Int)) = true := decide_eq_true (by omega)
      have hq : (m + i) % 64 < 64 := Nat.mod_lt _ (by decide)
      by_cases ha : (m + i) % 64 = 0 ∧ 64 ≤ L - i
      · obtain ⟨ha1, ha2⟩ := ha
        have hz0 : (((m + i) % 64 : Nat) : Int) = 0 := by omega
        have HC := Lib.hid cst
        have HB := Lib.hid cby
        clear cst cby
        rw [hz0] at c72
        generalize hSS : blocksW T ((m + i) / 64) = S at *
        have HSS := Lib.hid hSS
        clear hSS
        have hld : ∀ j v, (bytV 64 (fun j => f (i + j)))[j]? = some v → wr.cell? ⟨b, o + i + j, none⟩ = some v := by
          intro j v hv
          have hj : j < 64 := by have := (Array.getElem?_eq_some_iff.1 hv).1; simpa [bytV_size] using this
          rw [bytV_at _ _ hj] at hv
          rw [Nat.add_assoc, hr.2 (i + j) (by omega)]; exact hv
        have HLD := Lib.hid hld
        clear hld
        have hst : ∀ j v, (s8V S)[j]? = some v → (wr.alloc (.cells (bytV 64 (fun j => f (i + j))) 302)).cell? ⟨hb, 0 + j, none⟩ = some v := by
          intro j v hv
          have hj : j < 8 := by have := (Array.getElem?_eq_some_iff.1 hv).1; simpa [s8V_size] using this
          rw [s8V_arr, arrV_at _ _ hj] at hv
          rw [Nat.zero_add, ← hv]
          exact ((bH.alloc (.cells (bytV 64 (fun j => f (i + j))) 302)).c j).trans ((bH.c j).symm.trans (HC.out j hj))
        have HST := Lib.hid hst
        clear hst
        have rP := bytV_rd (Blk.new wr (bytV 64 (fun j => f (i + j))) 302)
        have bH4 := bH.alloc (.cells (bytV 64 (fun j => f (i + j))) 302)
        have hbw := bH.lt
        have hfin : ∀ W, Blk W hb (hashV (stepW S (mW fun j => f (i + j))) F 0 ((m : Int) + L)) 304 → HashAt W hb T (m + (i + 64)) ((m : Int) + L) := by
          intro W hW
          refine ⟨F, ?_, fun j hj => absurd hj (by omega)⟩
          have e1 : (m + (i + 64)) / 64 = (m + i) / 64 + 1 := by omega
          have e2 : (((m + (i + 64)) % 64 : Nat) : Int) = 0 := by omega
          rw [e1, e2]
          have e3 : blocksW T ((m + i) / 64 + 1) = stepW S (mW fun j => f (i + j)) := by
            show stepW (blocksW T ((m + i) / 64)) (blkW T ((m + i) / 64)) = _
            rw [HSS.out, ← mW_blk]
            refine stepW_bytes _ _ _ fun j hj => ?_
            show T.getD (64 * ((m + i) / 64) + j) 0 = _
            rw [show 64 * ((m + i) / 64) + j = m + (i + j) by omega]
            exact HT2.out (i + j) (by omega)
          rw [e3]; exact hW
        have HFIN := Lib.hid hfin
        clear hfin
        have hS5 : Kp (fun k => k = hb) w (wr.alloc (.cells (bytV 64 (fun j => f (i + j))) 302)) := K.alloc _
        rcases (show c' = 64 ∨ ¬ c' = 64 by omega) with h64 | h64
        · as_aux_lemma =>
          subst h64
          have harr := arrayAt64 (some ⟨b, o + i, none⟩) 64
          go_wp2_with (first
            | (refine wpList_load_part (by rfl) 302 _ (by rfl) b (o + i) (by rfl) (bytV 64 (fun j => f (i + j))) (.array 64 5) HLD.out (by kernel_rfl) (by rfl) (by rw [bytV_size]; kernel_rfl) ?_)
            | (refine wpList_store_rowTo (by rfl) 302 _ _ (by rfl) (by rfl) wr.heap.size (bytV 64 (fun j => f (i + j))) (by rfl) (by rfl) 302 z64b (heap_alloc_new _ _) (by rw [bytV_size]; kernel_rfl) (by rw [bytV_size]; rfl) (bytV_one _ _) ?_; rw [World.setRow_alloc_new])
            | (refine wpList_load_part (by rfl) 299 _ (by rfl) hb 0 (by rfl) (s8V S) (.array 8 39) HST.out (by kernel_rfl) (by rfl) (by rw [s8V_size]; kernel_rfl) ?_)
            | (go_at_call 295; refine (digStep S _ _ (fun j => f (i + j)) _ rP).mono ?_; rintro e w5 ⟨rfl, hb5⟩; have bH5 := bH4.kp (Kp.of_below (P := fun _ => False) hb5) id)
            | (refine wpList_store_part (by rfl) 299 _ _ (by rfl) (by rfl) hb 0 (s8V (stepW S (mW fun j => f (i + j)))) (by rfl) (by rfl) 304 (hashV S F 0 ((m : Int) + L)) (by rw [hz0] at bH5; exact bH5) (by rw [s8V_size]; kernel_rfl) (by unfold hashV; rw [s8V_size, fnV_size]; omega) (s8V_one _) ?_; rw [hashV_st]))
          go_roundw
          case rel => exact ⟨i + 64, o + i, 0, by rw [show L - (i + 64) = 0 by omega], by omega, fun h => by omega, by omega, by omega, HFIN.out _ bH5.row, ((hr.mono (((Below.refl _ _).alloc (Nat.le_refl _) _).trans (hb5.mono (by simp)))).kp ((Kp.refl (fun k => k = hb) w5).row hb _ (.inl rfl)) hne), (hS5.trans (Kp.of_below (P := fun _ => False) hb5) (fun _ _ => False.elim)).row hb _ (.inl rfl)⟩
          case measure => dsimp only; omega
        · as_aux_lemma =>
          have harr := arrayAt64 (some ⟨b, o + i, none⟩) c'
          go_wp2_with (first
            | (refine wpList_load_part (by rfl) 302 _ (by rfl) b (o + i) (by rfl) (bytV 64 (fun j => f (i + j))) (.array 64 5) HLD.out (by kernel_rfl) (by rfl) (by rw [bytV_size]; kernel_rfl) ?_)
            | (refine wpList_store_rowTo (by rfl) 302 _ _ (by rfl) (by rfl) wr.heap.size (bytV 64 (fun j => f (i + j))) (by rfl) (by rfl) 302 z64b (heap_alloc_new _ _) (by rw [bytV_size]; kernel_rfl) (by rw [bytV_size]; rfl) (bytV_one _ _) ?_; rw [World.setRow_alloc_new])
            | (refine wpList_load_part (by rfl) 299 _ (by rfl) hb 0 (by rfl) (s8V S) (.array 8 39) HST.out (by kernel_rfl) (by rfl) (by rw [s8V_size]; kernel_rfl) ?_)
            | (go_at_call 295; refine (digStep S _ _ (fun j => f (i + j)) _ rP).mono ?_; rintro e w5 ⟨rfl, hb5⟩; have bH5 := bH4.kp (Kp.of_below (P := fun _ => False) hb5) id)
            | (refine wpList_store_part (by rfl) 299 _ _ (by rfl) (by rfl) hb 0 (s8V (stepW S (mW fun j => f (i + j)))) (by rfl) (by rfl) 304 (hashV S F 0 ((m : Int) + L)) (by rw [hz0] at bH5; exact bH5) (by rw [s8V_size]; kernel_rfl) (by unfold hashV; rw [s8V_size, fnV_size]; omega) (s8V_one _) ?_; rw [hashV_st]))
          go_roundw
          case rel => exact ⟨i + 64, o + i + 64, c' - 64, by rw [show L - (i + 64) = L - i - 64 by omega], by omega, fun h => by omega, by omega, by omega, HFIN.out _ bH5.row, ((hr.mono (((Below.refl _ _).alloc (Nat.le_refl _) _).trans (hb5.mono (by simp)))).kp ((Kp.refl (fun k => k = hb) w5).row hb _ (.inl rfl)) hne), (hS5.trans (Kp.of_below (P := fun _ => False) hb5) (fun _ _ => False.elim)).row hb _ (.inl rfl)⟩
          case measure => dsimp only; omega
      · generalize hSS : blocksW T ((m + i) / 64) = S at *
        have HSS := Lib.hid hSS
        clear hSS
        obtain ⟨H0, hH0⟩ : ∃ H0, H0 = (m + i) % 64 := ⟨_, rfl⟩
        obtain ⟨K0, hK0⟩ : ∃ K0, K0 = Nat.min (L - i) (64 - H0) := ⟨_, rfl⟩
        rw [← hH0] at ha bH hF c72 hq
        have hK1 : 1 ≤ K0 := by rw [hK0]; simp only [Nat.min_def]; split <;> omega
        have hK2 : K0 ≤ L - i := by rw [hK0]; exact Nat.min_le_left _ _
        have hK3 : K0 ≤ 64 - H0 := by rw [hK0]; exact Nat.min_le_right _ _
        have HH0 := Lib.hid hH0
        have HK0 := Lib.hid hK0
        have HC := Lib.hid cst
        have HB := Lib.hid cby
        clear cst cby hH0 hK0
        have hF1 : ∀ j, j < H0 + K0 → (if H0 ≤ j ∧ j < H0 + K0 then f (i + (j - H0)) else F j) = T.getD (64 * ((m + i) / 64) + j) 0 := by
          intro j hj
          have := HH0.out
          by_cases h : H0 ≤ j
          · rw [if_pos ⟨h, hj⟩, ← HT2.out _ (by omega)]; congr 1; omega
          · rw [if_neg (by omega)]; exact hF j (by omega)
        have HF1 := Lib.hid hF1
        have HF := Lib.hid hF
        clear hF1 hF
        have hcs : ∀ j v, ((List.range K0).map fun j => Value.int .u8 ((f (i + j)).toNat : Int))[j]? = some v → wr.cell? ⟨b, o + i + j, none⟩ = some v := by
          intro j v hv
          have hj : j < K0 := by have := (List.getElem?_eq_some_iff.1 hv).1; simpa using this
          rw [Nat.add_assoc, hr.2 (i + j) (by omega)]
          simpa [hj] using hv
        have HCS := Lib.hid hcs
        clear hcs
        have hbw := bH.lt
        have hsl := sliceAt64 hb 8 H0 hq
        by_cases h0 : H0 = 0
        case' pos =>
          have hl64 : L - i < 64 := by omega
          have hd1 : decide ((64 : Int) ≤ ((L - i : Nat) : Int)) = false := decide_eq_false (by omega)
          have hd2 : ((H0 : Int) == 0) = true := by simp [h0]
          have HZ0 := Lib.hid h0
          clear h0
        case' neg =>
          have hd2 : ((H0 : Int) == 0) = false := by simp [h0]
        all_goals
          go_wp2
          (refine wp_region_drew_tail 9 (by kernel_rfl) (by kernel_rfl) ?_; simp only [List.take_succ_cons, List.take_zero, List.drop_succ_cons, List.drop_zero]; (repeat (first | go_big_quiet_step (fail) | quiet_step (fail))); refine wpQuiet_nil ?_; intro _ hw'; obtain ⟨nq, hw''⟩ := hw'; subst hw'')
          have bHd := bH.drewN nq
          have Kd : Kp (fun k => k = hb) w (wr.drewN nq) := K.drewN nq
          have hrd : RdB (wr.drewN nq) b o L f := hr
          have hcsd : ∀ j v, ((List.range K0).map fun j => Value.int .u8 ((f (i + j)).toNat : Int))[j]? = some v → (wr.drewN nq).cell? ((⟨b, o + i, none⟩ : Addr).add j) = some v := fun j v hv => by rw [add_mk]; exact HCS.out j v hv
          have HCSD := Lib.hid hcsd
          clear hcsd
          refine wpList_copy_own (by rfl) (.tmp 52) (.tmp 53) 210 210 (by rfl) 5 Try.underlying210 (by kernel_rfl) hb (8 + H0) (64 - H0) (64 - H0) ⟨b, o + i, none⟩ (L - i) c' (by rfl) (by rfl) (hashV S F H0 ((m : Int) + L)) 304 bHd ((List.range K0).map fun j => Value.int .u8 ((f (i + j)).toNat : Int)) (by rw [List.length_map, List.length_range]; exact HK0.out) HCSD.out (by rw [List.length_map, List.length_range]; unfold hashV; rw [fnV_size]; omega) (by intro v hv; simp at hv; obtain ⟨_, _, rfl⟩ := hv; rfl) ?_
          have bH6 : Blk (World.setRow (wr.drewN nq) hb (((hashV S F H0 ((m : Int) + L)).toList.take (8 + H0) ++ (((List.range K0).map fun j => Value.int .u8 ((f (i + j)).toNat : Int)) ++ (hashV S F H0 ((m : Int) + L)).toList.drop (8 + H0 + ((List.range K0).map fun j => Value.int .u8 ((f (i + j)).toNat : Int)).length))).toArray)) hb (hashV S (fun j => if H0 ≤ j ∧ j < H0 + K0 then f (i + (j - H0)) else F j) H0 ((m : Int) + L)) 304 := by
            have h := bHd.row (cs' := over (hashV S F H0 ((m : Int) + L)) (8 + H0) (bytV K0 (fun j => f (i + j))))
            rw [hashV_by _ _ _ _ _ _ _ (by omega)] at h
            have e : (((hashV S F H0 ((m : Int) + L)).toList.take (8 + H0) ++ (((List.range K0).map fun j => Value.int .u8 ((f (i + j)).toNat : Int)) ++ (hashV S F H0 ((m : Int) + L)).toList.drop (8 + H0 + ((List.range K0).map fun j => Value.int .u8 ((f (i + j)).toNat : Int)).length))).toArray) = over (hashV S F H0 ((m : Int) + L)) (8 + H0) (bytV K0 (fun j => f (i + j))) := by
              unfold over bytV; simp
            rw [e, hashV_by _ _ _ _ _ _ _ (by omega)]; exact h
          have K6 := Kd.row hb (((hashV S F H0 ((m : Int) + L)).toList.take (8 + H0) ++ (((List.range K0).map fun j => Value.int .u8 ((f (i + j)).toNat : Int)) ++ (hashV S F H0 ((m : Int) + L)).toList.drop (8 + H0 + ((List.range K0).map fun j => Value.int .u8 ((f (i + j)).toNat : Int)).length))).toArray) (.inl rfl)
          have hr6 := hrd.kp ((Kp.refl (fun k => k = hb) (wr.drewN nq)).row hb (((hashV S F H0 ((m : Int) + L)).toList.take (8 + H0) ++ (((List.range K0).map fun j => Value.int .u8 ((f (i + j)).toNat : Int)) ++ (hashV S F H0 ((m : Int) + L)).toList.drop (8 + H0 + ((List.range K0).map fun j => Value.int .u8 ((f (i + j)).toNat : Int)).length))).toArray) (.inl rfl)) hne
          generalize hg6 : World.setRow _ _ _ = w6 at *
          clear hg6 bHd Kd hrd bH K hr c72 c73 hsl HCS HCSD
          simp only [List.length_map, List.length_range]
          have c72 := (hash_cells bH6).1
          have f72 := bH6.f 72
          have hK4 : ((L - i : Nat) : Int) - K0 = ((L - (i + K0) : Nat) : Int) := by omega
          rcases (show H0 + K0 = 64 ∨ ¬ H0 + K0 = 64 by omega) with hfl | hfl
          · have hd3 : ((H0 : Int) + K0 == 64) = true := by simp; omega
            rcases (show c' = K0 ∨ ¬ c' = K0 by omega) with h64 | h64
            · as_aux_lemma =>
              go_wp2
              have bH7 : Blk (w6.setCell ⟨hb, 72, none⟩ (.int .i64 ((H0 : Int) + K0))) hb (hashV S (fun j => if H0 ≤ j ∧ j < H0 + K0 then f (i + (j - H0)) else F j) ((H0 : Int) + K0) ((m : Int) + L)) 304 := by have h := bH6.set 72 (.int .i64 ((H0 : Int) + K0)); rw [hashV_held] at h; exact h
              have K7 := K6.set (p := ⟨hb, 72, none⟩) (.inl rfl) (.int .i64 ((H0 : Int) + K0))
              have hr7 := hr6.kp ((Kp.refl (fun k => k = hb) w6).set (p := ⟨hb, 72, none⟩) (.inl rfl) (.int .i64 ((H0 : Int) + K0))) hne
              generalize hg7 : World.setCell _ _ _ = w7 at *
              clear hg7 K6 hr6 bH6 c72 f72
              obtain ⟨-, -, cst, cby⟩ := hash_cells bH7
              have y0 : w7.cell? ⟨hb, 0, none⟩ = some (.int .u32 (iw S.a)) := cst 0 (by omega)
              have y1 : w7.cell? ⟨hb, 1, none⟩ = some (.int .u32 (iw S.b)) := cst 1 (by omega)
              have y2 : w7.cell? ⟨hb, 2, none⟩ = some (.int .u32 (iw S.c)) := cst 2 (by omega)
              have y3 : w7.cell? ⟨hb, 3, none⟩ = some (.int .u32 (iw S.d)) := cst 3 (by omega)
              have y4 : w7.cell? ⟨hb, 4, none⟩ = some (.int .u32 (iw S.e)) := cst 4 (by omega)
              have y5 : w7.cell? ⟨hb, 5, none⟩ = some (.int .u32 (iw S.f)) := cst 5 (by omega)
              have y6 : w7.cell? ⟨hb, 6, none⟩ = some (.int .u32 (iw S.g)) := cst 6 (by omega)
              have y7 : w7.cell? ⟨hb, 7, none⟩ = some (.int .u32 (iw S.h)) := cst 7 (by omega)
              have rR : RdB w7 hb 8 64 _ := ⟨bH7.lt, cby⟩
              have hB := Below.refl w7.heap.size w7
              have hbl := bH7.lt
              clear cst cby
              (refine wp_region_below_tail 11 (by kernel_rfl) (by kernel_rfl) ?_; simp only [List.take_succ_cons, List.take_zero, List.drop_succ_cons, List.drop_zero]; (repeat (first | go_big_quiet_step (exact Calls.regrown_of (digStep S _ _ _ _ (rR.mono (by repeat first | exact hB | (refine bl_drewN ?_ _) | (refine bl_drew ?_) | (refine bl_grow ?_ (by first | omega | (simp; omega) | simp) _ _) | (refine bl_set ?_ (by first | omega | (simp; omega) | simp) _) | (refine bl_alloc ?_ (by first | omega | (simp; omega) | simp) _))))) | quiet_step (exact Calls.regrown_of (digStep S _ _ _ _ (rR.mono (by repeat first | exact hB | (refine bl_drewN ?_ _) | (refine bl_drew ?_) | (refine bl_grow ?_ (by first | omega | (simp; omega) | simp) _ _) | (refine bl_set ?_ (by first | omega | (simp; omega) | simp) _) | (refine bl_alloc ?_ (by first | omega | (simp; omega) | simp) _))))))); refine wpQuiet_nil ?_; intro _ hw'; obtain ⟨⟨dq, osq⟩, hw''⟩ := hw'; subst hw'')
              generalize hg8 : grow (redrawn w7 dq) osq = w8
              have hb8 : Below w7.heap.size w7 w8 := by rw [← hg8]; exact below_regrown w7 dq osq
              clear hg8 y0 y1 y2 y3 y4 y5 y6 y7 hB rR
              have bH8 := bH7.kp (Kp.of_below (P := fun _ => False) hb8) id
              have K8 := K7.trans (Kp.of_below (P := fun _ => False) hb8) (fun _ _ => False.elim)
              have hr8 := hr7.mono hb8
              refine wpList_store_part (by rfl) 299 _ _ (by rfl) (by rfl) hb 0 (s8V (stepW S (mW (fun j => if H0 ≤ j ∧ j < H0 + K0 then f (i + (j - H0)) else F j)))) (by rfl) (by rfl) 304 (hashV S (fun j => if H0 ≤ j ∧ j < H0 + K0 then f (i + (j - H0)) else F j) ((H0 : Int) + K0) ((m : Int) + L)) bH8 (by rw [s8V_size]; kernel_rfl) (by unfold hashV; rw [s8V_size, fnV_size]; omega) (s8V_one _) ?_
              rw [hashV_st]
              have bH9 := bH8.row (cs' := hashV (stepW S (mW (fun j => if H0 ≤ j ∧ j < H0 + K0 then f (i + (j - H0)) else F j))) (fun j => if H0 ≤ j ∧ j < H0 + K0 then f (i + (j - H0)) else F j) ((H0 : Int) + K0) ((m : Int) + L))
              have K9 := K8.row hb (hashV (stepW S (mW (fun j => if H0 ≤ j ∧ j < H0 + K0 then f (i + (j - H0)) else F j))) (fun j => if H0 ≤ j ∧ j < H0 + K0 then f (i + (j - H0)) else F j) ((H0 : Int) + K0) ((m : Int) + L)) (.inl rfl)
              have hr9 := hr8.kp ((Kp.refl (fun k => k = hb) w8).row hb (hashV (stepW S (mW (fun j => if H0 ≤ j ∧ j < H0 + K0 then f (i + (j - H0)) else F j))) (fun j => if H0 ≤ j ∧ j < H0 + K0 then f (i + (j - H0)) else F j) ((H0 : Int) + K0) ((m : Int) + L)) (.inl rfl)) hne
              generalize hg9 : World.setRow _ _ _ = w9 at *
              clear hg9 bH8 K8 hr8 bH7 K7 hr7
              have c72 := (hash_cells bH9).1
              have f72 := bH9.f 72
              go_wp2
              go_roundw
              case rel =>
                have hH : HashAt (w9.setCell ⟨hb, 72, none⟩ (.int .i64 0)) hb T (m + (i + K0)) ((m : Int) + L) := by
                  have h := bH9.set 72 (.int .i64 0); rw [hashV_held] at h
                  have hh := HH0.out
                  refine ⟨(fun j => if H0 ≤ j ∧ j < H0 + K0 then f (i + (j - H0)) else F j), ?_, fun j hj => absurd hj (by omega)⟩
                  have e3 : blocksW T ((m + i) / 64 + 1) = stepW S (mW (fun j => if H0 ≤ j ∧ j < H0 + K0 then f (i + (j - H0)) else F j)) := by
                    show stepW (blocksW T ((m + i) / 64)) (blkW T ((m + i) / 64)) = _
                    rw [HSS.out, ← mW_blk]
                    exact stepW_bytes _ _ _ fun j hj => (HF1.out j (by omega)).symm
                  rw [show (m + (i + K0)) / 64 = (m + i) / 64 + 1 by omega, e3, show (((m + (i + K0)) % 64 : Nat) : Int) = 0 by omega]; exact h
                exact ⟨i + K0, o + i, 0, by rw [show L - (i + K0) = L - i - K0 by omega], by omega, fun h => by omega, by omega, by omega, hH, hr9.kp ((Kp.refl (fun k => k = hb) w9).set (p := ⟨hb, 72, none⟩) (.inl rfl) _) hne, K9.set (p := ⟨hb, 72, none⟩) (.inl rfl) _⟩
              case measure => dsimp only; omega
            · as_aux_lemma =>
              go_wp2
              have bH7 : Blk (w6.setCell ⟨hb, 72, none⟩ (.int .i64 ((H0 : Int) + K0))) hb (hashV S (fun j => if H0 ≤ j ∧ j < H0 + K0 then f (i + (j - H0)) else F j) ((H0 : Int) + K0) ((m : Int) + L)) 304 := by have h := bH6.set 72 (.int .i64 ((H0 : Int) + K0)); rw [hashV_held] at h; exact h
              have K7 := K6.set (p := ⟨hb, 72, none⟩) (.inl rfl) (.int .i64 ((H0 : Int) + K0))
              have hr7 := hr6.kp ((Kp.refl (fun k => k = hb) w6).set (p := ⟨hb, 72, none⟩) (.inl rfl) (.int .i64 ((H0 : Int) + K0))) hne
              generalize hg7 : World.setCell _ _ _ = w7 at *
              clear hg7 K6 hr6 bH6 c72 f72
              obtain ⟨-, -, cst, cby⟩ := hash_cells bH7
              have y0 : w7.cell? ⟨hb, 0, none⟩ = some (.int .u32 (iw S.a)) := cst 0 (by omega)
              have y1 : w7.cell? ⟨hb, 1, none⟩ = some (.int .u32 (iw S.b)) := cst 1 (by omega)
              have y2 : w7.cell? ⟨hb, 2, none⟩ = some (.int .u32 (iw S.c)) := cst 2 (by omega)
              have y3 : w7.cell? ⟨hb, 3, none⟩ = some (.int .u32 (iw S.d)) := cst 3 (by omega)
              have y4 : w7.cell? ⟨hb, 4, none⟩ = some (.int .u32 (iw S.e)) := cst 4 (by omega)
              have y5 : w7.cell? ⟨hb, 5, none⟩ = some (.int .u32 (iw S.f)) := cst 5 (by omega)
              have y6 : w7.cell? ⟨hb, 6, none⟩ = some (.int .u32 (iw S.g)) := cst 6 (by omega)
              have y7 : w7.cell? ⟨hb, 7, none⟩ = some (.int .u32 (iw S.h)) := cst 7 (by omega)
              have rR : RdB w7 hb 8 64 _ := ⟨bH7.lt, cby⟩
              have hB := Below.refl w7.heap.size w7
              have hbl := bH7.lt
              clear cst cby
              (refine wp_region_below_tail 11 (by kernel_rfl) (by kernel_rfl) ?_; simp only [List.take_succ_cons, List.take_zero, List.drop_succ_cons, List.drop_zero]; (repeat (first | go_big_quiet_step (exact Calls.regrown_of (digStep S _ _ _ _ (rR.mono (by repeat first | exact hB | (refine bl_drewN ?_ _) | (refine bl_drew ?_) | (refine bl_grow ?_ (by first | omega | (simp; omega) | simp) _ _) | (refine bl_set ?_ (by first | omega | (simp; omega) | simp) _) | (refine bl_alloc ?_ (by first | omega | (simp; omega) | simp) _))))) | quiet_step (exact Calls.regrown_of (digStep S _ _ _ _ (rR.mono (by repeat first | exact hB | (refine bl_drewN ?_ _) | (refine bl_drew ?_) | (refine bl_grow ?_ (by first | omega | (simp; omega) | simp) _ _) | (refine bl_set ?_ (by first | omega | (simp; omega) | simp) _) | (refine bl_alloc ?_ (by first | omega | (simp; omega) | simp) _))))))); refine wpQuiet_nil ?_; intro _ hw'; obtain ⟨⟨dq, osq⟩, hw''⟩ := hw'; subst hw'')
              generalize hg8 : grow (redrawn w7 dq) osq = w8
              have hb8 : Below w7.heap.size w7 w8 := by rw [← hg8]; exact below_regrown w7 dq osq
              clear hg8 y0 y1 y2 y3 y4 y5 y6 y7 hB rR
              have bH8 := bH7.kp (Kp.of_below (P := fun _ => False) hb8) id
              have K8 := K7.trans (Kp.of_below (P := fun _ => False) hb8) (fun _ _ => False.elim)
              have hr8 := hr7.mono hb8
              refine wpList_store_part (by rfl) 299 _ _ (by rfl) (by rfl) hb 0 (s8V (stepW S (mW (fun j => if H0 ≤ j ∧ j < H0 + K0 then f (i + (j - H0)) else F j)))) (by rfl) (by rfl) 304 (hashV S (fun j => if H0 ≤ j ∧ j < H0 + K0 then f (i + (j - H0)) else F j) ((H0 : Int) + K0) ((m : Int) + L)) bH8 (by rw [s8V_size]; kernel_rfl) (by unfold hashV; rw [s8V_size, fnV_size]; omega) (s8V_one _) ?_
              rw [hashV_st]
              have bH9 := bH8.row (cs' := hashV (stepW S (mW (fun j => if H0 ≤ j ∧ j < H0 + K0 then f (i + (j - H0)) else F j))) (fun j => if H0 ≤ j ∧ j < H0 + K0 then f (i + (j - H0)) else F j) ((H0 : Int) + K0) ((m : Int) + L))
              have K9 := K8.row hb (hashV (stepW S (mW (fun j => if H0 ≤ j ∧ j < H0 + K0 then f (i + (j - H0)) else F j))) (fun j => if H0 ≤ j ∧ j < H0 + K0 then f (i + (j - H0)) else F j) ((H0 : Int) + K0) ((m : Int) + L)) (.inl rfl)
              have hr9 := hr8.kp ((Kp.refl (fun k => k = hb) w8).row hb (hashV (stepW S (mW (fun j => if H0 ≤ j ∧ j < H0 + K0 then f (i + (j - H0)) else F j))) (fun j => if H0 ≤ j ∧ j < H0 + K0 then f (i + (j - H0)) else F j) ((H0 : Int) + K0) ((m : Int) + L)) (.inl rfl)) hne
              generalize hg9 : World.setRow _ _ _ = w9 at *
              clear hg9 bH8 K8 hr8 bH7 K7 hr7
              have c72 := (hash_cells bH9).1
              have f72 := bH9.f 72
              go_wp2
              go_roundw
              case rel =>
                have hH : HashAt (w9.setCell ⟨hb, 72, none⟩ (.int .i64 0)) hb T (m + (i + K0)) ((m : Int) + L) := by
                  have h := bH9.set 72 (.int .i64 0); rw [hashV_held] at h
                  have hh := HH0.out
                  refine ⟨(fun j => if H0 ≤ j ∧ j < H0 + K0 then f (i + (j - H0)) else F j), ?_, fun j hj => absurd hj (by omega)⟩
                  have e3 : blocksW T ((m + i) / 64 + 1) = stepW S (mW (fun j => if H0 ≤ j ∧ j < H0 + K0 then f (i + (j - H0)) else F j)) := by
                    show stepW (blocksW T ((m + i) / 64)) (blkW T ((m + i) / 64)) = _
                    rw [HSS.out, ← mW_blk]
                    exact stepW_bytes _ _ _ fun j hj => (HF1.out j (by omega)).symm
                  rw [show (m + (i + K0)) / 64 = (m + i) / 64 + 1 by omega, e3, show (((m + (i + K0)) % 64 : Nat) : Int) = 0 by omega]; exact h
                exact ⟨i + K0, o + i + K0, c' - K0, by rw [show L - (i + K0) = L - i - K0 by omega], by omega, fun h => by omega, by omega, by omega, hH, hr9.kp ((Kp.refl (fun k => k = hb) w9).set (p := ⟨hb, 72, none⟩) (.inl rfl) _) hne, K9.set (p := ⟨hb, 72, none⟩) (.inl rfl) _⟩
              case measure => dsimp only; omega
          · have hd3 : ((H0 : Int) + K0 == 64) = false := by simp; omega
            rcases (show c' = K0 ∨ ¬ c' = K0 by omega) with h64 | h64
            · as_aux_lemma =>
              go_wp2
              go_roundw
              case rel =>
                have hH : HashAt (w6.setCell ⟨hb, 72, none⟩ (.int .i64 ((H0 : Int) + K0))) hb T (m + (i + K0)) ((m : Int) + L) := by
                  have h := bH6.set 72 (.int .i64 ((H0 : Int) + K0)); rw [hashV_held] at h
                  have hh := HH0.out
                  refine ⟨(fun j => if H0 ≤ j ∧ j < H0 + K0 then f (i + (j - H0)) else F j), ?_, fun j hj => ?_⟩
                  · rw [show (m + (i + K0)) / 64 = (m + i) / 64 by omega, HSS.out, show (((m + (i + K0)) % 64 : Nat) : Int) = (H0 : Int) + K0 by omega]; exact h
                  · rw [show (m + (i + K0)) / 64 = (m + i) / 64 by omega]; exact HF1.out j (by omega)
                exact ⟨i + K0, o + i, 0, by rw [show L - (i + K0) = L - i - K0 by omega], by omega, fun h => by omega, by omega, by omega, hH, hr6.kp ((Kp.refl (fun k => k = hb) w6).set (p := ⟨hb, 72, none⟩) (.inl rfl) _) hne, K6.set (p := ⟨hb, 72, none⟩) (.inl rfl) _⟩
              case measure => dsimp only; omega
            · as_aux_lemma =>
              go_wp2
              go_roundw
              case rel =>
                have hH : HashAt (w6.setCell ⟨hb, 72, none⟩ (.int .i64 ((H0 : Int) + K0))) hb T (m + (i + K0)) ((m : Int) + L) := by
                  have h := bH6.set 72 (.int .i64 ((H0 : Int) + K0)); rw [hashV_held] at h
                  have hh := HH0.out
                  refine ⟨(fun j => if H0 ≤ j ∧ j < H0 + K0 then f (i + (j - H0)) else F j), ?_, fun j hj => ?_⟩
                  · rw [show (m + (i + K0)) / 64 = (m + i) / 64 by omega, HSS.out, show (((m + (i + K0)) % 64 : Nat) : Int) = (H0 : Int) + K0 by omega]; exact h
                  · rw [show (m + (i + K0)) / 64 = (m + i) / 64 by omega]; exact HF1.out j (by omega)
                exact ⟨i + K0, o + i + K0, c' - K0, by rw [show L - (i + K0) = L - i - K0 by omega], by omega, fun h => by omega, by omega, by omega, hH, hr6.kp ((Kp.refl (fun k => k = hb) w6).set (p := ⟨hb, 72, none⟩) (.inl rfl) _) hne, K6.set (p := ⟨hb, 72, none⟩) (.inl rfl) _⟩
              case measure => dsimp only; omega
    · obtain rfl : i = L := by omega
      have hd0 : decide ((0 : Int) < ((i - i : Nat) : Int)) = false := decide_eq_false (by omega)
      go_wp2
      go_end0
      exact ⟨rfl, by have : ((m + i : Nat) : Int) = (m : Int) + i := by omega
                     rw [this]; exact H, K⟩
end Go.Proofs.Ytfdiedcleggfnaa
