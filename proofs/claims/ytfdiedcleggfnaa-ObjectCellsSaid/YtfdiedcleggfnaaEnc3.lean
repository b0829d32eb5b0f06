/- The bytes of vectors and states by the program's own text. -/
import Derived.Test.YtfdiedcleggfnaaEnc2
namespace Go.Proofs.Ytfdiedcleggfnaa
open Go.RowKit Go.Sort
attribute [local go_sem] grow_cell

theorem IsW.mono {w : World} {P Q : Nat → Prop} {g : Nat} {bs : List UInt8} (h : IsW w P g bs) (hq : ∀ k, P k → Q k) (hl : ∀ k, Q k → k < w.heap.size) : IsW w Q g bs := by
  obtain ⟨hg, _, v, hh, hv⟩ := h
  exact ⟨hq _ hg, hl, v, hh, hv.mono (fun k _ hk => ⟨hq _ hk.1, hk.2⟩)⟩
theorem IsW.below {w w' : World} {P : Nat → Prop} {g : Nat} {bs : List UInt8} (h : IsW w P g bs) (hb : Below w.heap.size w w') : IsW w' P g bs := by
  obtain ⟨hg, hP, v, hh, hv⟩ := h
  exact ⟨hg, fun k hk => Nat.lt_of_lt_of_le (hP k hk) hb.size, v, (hb.block g (hP g hg)).trans hh, hv.below hb⟩
theorem IsW.alloc {w : World} {P : Nat → Prop} {g : Nat} {bs : List UInt8} (h : IsW w P g bs) (o : Obj) : IsW (w.alloc o) P g bs := h.below ((Below.refl _ _).alloc (Nat.le_refl _) o)

set_option maxRecDepth 100000 in
set_option maxHeartbeats 2000000 in
theorem vectorPut (P : Nat → Prop) (g : Nat) (bs : List UInt8) (A : Option Addr) (c : Nat) (xs : List Dot) (w : World) (h : IsW w P g bs) (hl : bs.length < 900000000) (hr : RdD w A xs) (hA : ∀ a, A = some a → ¬ P a.block) (hv : vvalid xs = true) :
    Calls Try.prog 100 #[.pointer (some ⟨g, 0, none⟩), .slice A xs.length c] w fun e w' => e = .returned (.int .i64 0) ∧ IsW w' (Ext P w w') g (bs ++ encVec xs) ∧ Kp P w w' := by
  have hn : xs.length ≤ 64 := (of_decide_eq_true hv).1
  have hPw := h.2.1
  go_enter Try.func100, Try.ntmps100
  go_wp2_with (first | (go_at_call 191; (with_reducible refine (vectorValid _ _ _ _ hr (by omega)).mono ?_); rintro e w2 ⟨rfl, hb2⟩) | (go_at_call 101; (with_reducible refine (writerUint P g bs _ xs.length rfl (by omega) w2 (h.below hb2) (by have := uintB_len10 xs.length (by omega); omega)).mono ?_); rintro e w3 ⟨rfl, hw3, hk3⟩))
  have hk23 : Kp P w w3 := (Kp.of_below hb2).trans hk3 (fun _ _ h => h)
  have hS2 := hb2.size
  have hS3 := hk3.size
  have hw3' : IsW w3 (Ext P w w3) g (bs ++ uintB xs.length) := hw3.mono (fun k hk => by rcases hk with hk | hk; exact .inl hk; exact .inr (by omega)) (fun k hk => by rcases hk with hk | hk; have := hPw k hk; omega; omega)
  go_loopw [19] (fun i W => ∃ p : Nat, i = .int .i64 p ∧ p ≤ xs.length ∧ IsW W (Ext P w W) g (bs ++ (uintB xs.length ++ ((xs.take p).map encDot).flatten)) ∧ Kp P w W) (fun i _ => xs.length - (intOf i).toNat)
  case atStart => exact ⟨0, rfl, Nat.zero_le _, by simpa using hw3', hk23⟩
  case round =>
    clear hk23 hS2 hS3 hw3 hw3' hk3 hb2
    obtain ⟨p, rfl, hp, hW, hk⟩ := hrel
    have hS := hk.size
    by_cases hlt : p < xs.length
    · obtain ⟨b, o, rfl, hb, c1, c2⟩ := (hr.kp hk hA).at_ hlt
      obtain ⟨u1, u2, u3, u4⟩ := hr.wf hlt
      have hlen : (bs ++ (uintB xs.length ++ ((xs.take p).map encDot).flatten)).length ≤ 900002000 := by
        rw [List.length_append, List.length_append]
        have h1 := uintB_len10 xs.length (by omega)
        have h2 := flat_len encDot 20 (xs.take p) (fun x hx => encDot_len (hr.2 x (List.mem_of_mem_take hx)))
        have h3 := List.length_take_le p xs
        have h4 : (xs.take p).length * 20 ≤ 64 * 20 := Nat.mul_le_mul_right _ (by omega)
        omega
      have hstep : Hid (bs ++ (uintB xs.length ++ ((xs.take (p + 1)).map encDot).flatten) = (bs ++ (uintB xs.length ++ ((xs.take p).map encDot).flatten)) ++ uintB (dotAt xs p).a.toNat ++ uintB (dotAt xs p).c.toNat) := by
        unfold Hid
        rw [take_succ_dot xs p hlt]
        simp [encDot]
      generalize bs ++ (uintB xs.length ++ ((xs.take p).map encDot).flatten) = cur at *
      have hPW := hW.2.1
      have l1 := uintB_len10 (dotAt xs p).a.toNat (by omega)
      have l2 := uintB_len10 (dotAt xs p).c.toNat (by omega)
      have hlast : ∀ w2 w3 : World, wr.heap.size + 1 ≤ w2.heap.size → Kp (Ext (Ext P w wr) (wr.alloc (.cells #[.int .u32 (dotAt xs p).a, .int .u64 (dotAt xs p).c] 50)) w2) w2 w3 → IsW w3 (Ext (Ext (Ext P w wr) (wr.alloc (.cells #[.int .u32 (dotAt xs p).a, .int .u64 (dotAt xs p).c] 50)) w2) w2 w3) g (cur ++ uintB (dotAt xs p).a.toNat ++ uintB (dotAt xs p).c.toNat) → Kp (Ext P w wr) (wr.alloc (.cells #[.int .u32 (dotAt xs p).a, .int .u64 (dotAt xs p).c] 50)) w2 →
          IsW w3 (Ext P w w3) g (cur ++ uintB (dotAt xs p).a.toNat ++ uintB (dotAt xs p).c.toNat) ∧ Kp P w w3 := by
        intro w2 w3 hs2 hk3 hw3 hk2
        have h3 := hk3.size
        refine ⟨hw3.mono (fun k hk' => ?_) (fun k hk' => ?_), ((hk.alloc _).trans hk2 (fun i hi hq => ?_)).trans hk3 (fun i hi hq => ?_)⟩
        · unfold Ext at hk' ⊢; simp only [World.size_alloc] at hk'; rcases hk' with ((hk' | hk') | hk') | hk'
          · exact .inl hk'
          · exact .inr (by omega)
          · exact .inr (by omega)
          · exact .inr (by omega)
        · rcases hk' with hk' | hk'
          · have := hPw k hk'; omega
          · omega
        · unfold Ext at hq; rcases hq with hq | hq
          · exact hq
          · omega
        · unfold Ext at hq; simp only [World.size_alloc] at hq; rcases hq with (hq | hq) | hq
          · exact hq
          · omega
          · omega
      go_wp2_with (first
        | (go_at_call 101; (with_reducible refine (writerUint (Ext P w wr) g cur (dotAt xs p).a (dotAt xs p).a.toNat (by omega) (by omega) _ (hW.alloc _) (by omega)).mono ?_); rintro e w2 ⟨rfl, hw2, hk2⟩; have d2 : w2.cell? ⟨wr.heap.size, 1, none⟩ = some (.int .u64 (dotAt xs p).c) := hk2.cell (by go_simp) (fun h => by have := hPW _ h; simp at this))
        | (go_at_call 101; (with_reducible refine (writerUint _ g _ (dotAt xs p).c (dotAt xs p).c.toNat (by omega) (by omega) _ hw2 (by rw [List.length_append]; omega)).mono ?_); rintro e w3 ⟨rfl, hw3, hk3⟩))
      obtain ⟨r1, r2⟩ := hlast w2 w3 (by have := hk2.size; simpa using this) hk3 hw3 hk2
      go_roundw
      case rel => exact ⟨p + 1, by go_num, by omega, by rw [hstep.out]; exact r1, r2⟩
      case measure => simp [intOf]; omega
    · have hall : Hid (xs.take p = xs) := List.take_of_length_le (by omega)
      go_wp2
      go_ret
      exact ⟨rfl, by rw [hall.out] at hW; exact hW, hk⟩

/-- A round's end: what was done since W1 is told of w0 again. -/
theorem wst_end {P : Nat → Prop} {w0 W W1 W2 : World} {g : Nat} {bs : List UInt8} (hP : ∀ k, P k → k < w0.heap.size) (hk : Kp P w0 W) (hb : Below W.heap.size W W1)
    (hw2 : IsW W2 (Ext (Ext P w0 W) W1 W2) g bs) (hk2 : Kp (Ext P w0 W) W1 W2) : IsW W2 (Ext P w0 W2) g bs ∧ Kp P w0 W2 := by
  have h1 := hk.size
  have h2 := hb.size
  have h3 := hk2.size
  refine ⟨hw2.mono (fun k hk' => ?_) (fun k hk' => ?_), (hk.trans (Kp.of_below (P := P) hb) (fun _ _ h => h)).trans hk2 (fun i hi hq => ?_)⟩
  · unfold Ext at hk' ⊢; rcases hk' with (hk' | hk') | hk'
    · exact .inl hk'
    · exact .inr (by omega)
    · exact .inr (by omega)
  · rcases hk' with hk' | hk'
    · have := hP k hk'; omega
    · omega
  · rcases hq with hq | hq
    · exact hq
    · omega

set_option maxRecDepth 100000 in
set_option maxHeartbeats 2000000 in
theorem dvvEncode (A B : Option Addr) (c d : Nat) (s : St) (w : World) (hr : RdD w A s.seen) (hs : RdS w B s.sibs) (hn : s.seen.length ≤ 4611686018427387904) (hm : s.sibs.length ≤ 4611686018427387904)
    (hAb : ∀ a, A = some a → a.block < w.heap.size) :
    Calls Try.prog 19 #[.agg #[.slice A s.seen.length c, .slice B s.sibs.length d]] w fun e w' => e = .returned (if svalid s = true then .tuple #[.string (strB (encSt s)), .int .i64 0] else .tuple #[.string ⟨#[]⟩, .int .i64 110]) ∧ Below w.heap.size w w' := by
  have hB0 := Below.refl w.heap.size w
  by_cases hv : svalid s = true
  · rw [if_pos hv]
    obtain ⟨hvv, hn, hl⟩ := svalid_parts hv
    have HV := Lib.hid hvv
    clear hvv
    have hle1 := encVec_len hr.2 hn
    have hle2 := uintB_len10 s.sibs.length (by omega)
    go_enter Try.func19, Try.ntmps19
    go_wp2_with (first
      | (go_at_call 98; (with_reducible refine (dvvValid _ _ _ _ _ _ (hr.mono (bl_alloc hB0 (Nat.le_refl _) _)) (hs.mono (bl_alloc hB0 (Nat.le_refl _) _)) (by omega) hm).mono ?_); rintro e w2 ⟨rfl, hb2⟩; have hB2 : Below w.heap.size w w2 := (hB0.alloc (Nat.le_refl _) _).trans (hb2.mono (by simp)); have hc0 : w2.cell? ⟨w.heap.size, 0, none⟩ = some (.slice A s.seen.length c) := below_cell hb2 (by go_simp); have hc1 : w2.cell? ⟨w.heap.size, 1, none⟩ = some (.slice B s.sibs.length d) := below_cell hb2 (by go_simp))
      | (go_at_call 99; (refine (newWriter _).mono ?_); rintro e w3 ⟨g, rfl, hg3, hw3, hb3⟩; have hB3 : Below w.heap.size w w3 := bl_to hB2 hb3 hB2.size; have hc3 : w3.cell? ⟨w.heap.size, 0, none⟩ = some (.slice A s.seen.length c) := below_cell hb3 hc0; have hc4 : w3.cell? ⟨w.heap.size, 1, none⟩ = some (.slice B s.sibs.length d) := below_cell hb3 hc1))
    have hz0 : w.heap.size < g := by have := hb2.size; simp at this; omega
    go_wp2_with (first
      | (go_at_call 100; (with_reducible refine (vectorPut _ g [] _ _ s.seen w3 hw3 (by simp) (hr.mono hB3) (fun a ha (h : a.block = g) => by have := hAb a ha; omega) HV.out).mono ?_); rintro e w4 ⟨rfl, hw4, hk4⟩; have hc5 : w4.cell? ⟨w.heap.size, 1, none⟩ = some (.slice B s.sibs.length d) := hk4.cell hc4 (fun (h : w.heap.size = g) => by omega))
      | (go_at_call 101; (with_reducible refine (writerUint _ g _ _ s.sibs.length rfl (by omega) w4 hw4 (by simp only [List.nil_append]; omega)).mono ?_); rintro e w5 ⟨rfl, hw5, hk5⟩; have hk35 := hk4.ext hk5; have hw35 := hw5.ext hk4.size hk5.size; have hc6 : w5.cell? ⟨w.heap.size, 1, none⟩ = some (.slice B s.sibs.length d) := hk35.cell hc4 (fun (h : w.heap.size = g) => by omega)))
    simp only [List.nil_append] at hw35
    have h3P : ∀ k, k = g → k < w3.heap.size := hw3.2.1
    clear hk4 hk5 hw4 hw5 hc5 hb2 hb3 hB2 hc0 hc1 hc3 hc6
    go_loopw [25] (fun i W => ∃ p : Nat, i = .int .i64 p ∧ p ≤ s.sibs.length ∧ IsW W (Ext (fun k => k = g) w3 W) g (encVec s.seen ++ (uintB s.sibs.length ++ ((s.sibs.take p).map encSib).flatten)) ∧ Kp (fun k => k = g) w3 W) (fun i _ => s.sibs.length - (intOf i).toNat)
    case atStart => exact ⟨0, rfl, Nat.zero_le _, by simpa using hw35, hk35⟩
    case round =>
      clear hk35 hw35
      obtain ⟨p, rfl, hp, hW, hk⟩ := hrel
      have hS := hk.size
      have hB := hB3.trans (hk.below (B := w.heap.size) hB3.size (fun i hi => by omega))
      by_cases hlt : p < s.sibs.length
      · obtain ⟨b, o, rfl, hb, c1, c2, c3, c4⟩ := (hs.mono hB).at_ hlt
        have hwf := hs.wf hlt
        obtain ⟨u1, u2, u3, u4⟩ := hwf.1
        have hv40 : (sibAt s.sibs p).v.size ≤ 40 := svalid_val hv (sibAt_mem hlt)
        have hlen : (encVec s.seen ++ (uintB s.sibs.length ++ ((s.sibs.take p).map encSib).flatten)).length ≤ 7000 := by
          rw [List.length_append, List.length_append]
          have h0 := encVec_len hr.2 hn
          have h1 := uintB_len10 s.sibs.length (by omega)
          have h2 := flat_len encSib 71 (s.sibs.take p) (fun x hx => encSib_len (hs.2 x (List.mem_of_mem_take hx)).1 (svalid_val hv (List.mem_of_mem_take hx)))
          have h3 := List.length_take_le p s.sibs
          have h4 : (s.sibs.take p).length * 71 ≤ 64 * 71 := Nat.mul_le_mul_right _ (by omega)
          omega
        have hstep : Hid (encVec s.seen ++ (uintB s.sibs.length ++ ((s.sibs.take (p + 1)).map encSib).flatten) =
            (encVec s.seen ++ (uintB s.sibs.length ++ ((s.sibs.take p).map encSib).flatten)) ++ uintB (sibAt s.sibs p).d.a.toNat ++ uintB (sibAt s.sibs p).d.c.toNat ++ [if (sibAt s.sibs p).g then 1 else 0] ++ (uintB (sibAt s.sibs p).v.size ++ (sibAt s.sibs p).v.data.toList)) := by
          unfold Hid
          rw [take_succ_sib s.sibs p hlt]
          simp [encSib, encDot]
        generalize encVec s.seen ++ (uintB s.sibs.length ++ ((s.sibs.take p).map encSib).flatten) = cur at *
        have HWF := Lib.hid hwf
        clear hwf
        have hPW := hW.2.1
        have l1 := uintB_len10 (sibAt s.sibs p).d.a.toNat (by omega)
        have l2 := uintB_len10 (sibAt s.sibs p).d.c.toNat (by omega)
        have l3 := uintB_len10 (sibAt s.sibs p).v.size (by omega)
        generalize hP1 : Ext (fun k => k = g) w3 wr = P1 at *
        cases hg : (sibAt s.sibs p).g
        all_goals
          go_wp2_with (first
            | (go_at_call 101; (with_reducible refine (writerUint P1 g cur (sibAt s.sibs p).d.a (sibAt s.sibs p).d.a.toNat (by omega) (by omega) _ (hW.alloc _) (by omega)).mono ?_); rintro e x2 ⟨rfl, hx2, hy2⟩; have d2 : x2.cell? ⟨wr.heap.size, 1, none⟩ = some (.int .u64 (sibAt s.sibs p).d.c) := hy2.cell (by go_simp) (fun h => by have := hPW _ h; simp at this))
            | (go_at_call 101; (with_reducible refine (writerUint _ g _ (sibAt s.sibs p).d.c (sibAt s.sibs p).d.c.toNat (by omega) (by omega) _ hx2 (by simp only [List.length_append]; omega)).mono ?_); rintro e x3 ⟨rfl, hx3', hy3'⟩; have hx3 := hx3'.ext hy2.size hy3'.size; have hy3 := hy2.ext hy3'; have d3 : x3.cell? ⟨wr.heap.size, 2, none⟩ = some (.bool (sibAt s.sibs p).g) := hy3.cell (by go_simp) (fun h => by have := hPW _ h; simp at this))
            | (go_at_call 102; (with_reducible refine (writerByte _ g _ _ (if (sibAt s.sibs p).g then 1 else 0) (by simp [hg]) _ hx3 (by simp only [List.length_append]; omega)).mono ?_); rintro e x4 ⟨rfl, hx4', hy4'⟩; have hx4 := hx4'.ext hy3.size hy4'.size; have hy4 := hy3.ext hy4'; have d4 : x4.cell? ⟨wr.heap.size, 3, none⟩ = some (.string (sibAt s.sibs p).v) := hy4.cell (by go_simp) (fun h => by have := hPW _ h; simp at this))
            | (go_at_call 103; (with_reducible refine (writerText _ g _ (sibAt s.sibs p).v _ hx4 (by simp only [List.length_append, List.length_cons, List.length_nil]; omega) (by omega)).mono ?_); rintro e x5 ⟨rfl, hx5', hy5'⟩; have hx5 := hx5'.ext hy4.size hy5'.size; have hy5 := hy4.ext hy5'))
          subst hP1
          obtain ⟨r1, r2⟩ := wst_end h3P hk ((Below.refl _ _).alloc (Nat.le_refl _) _) hx5 hy5
          go_roundw
          case rel => exact ⟨p + 1, by go_num, by omega, by rw [hstep.out]; exact r1, r2⟩
          case measure => simp [intOf]; omega
      · rw [List.take_of_length_le (by omega)] at hW
        go_wp2_with (go_at_call 104; (refine (writerTold _ g _ _ hW).mono ?_); rintro e x2 ⟨rfl, rfl⟩)
        go_ret2
        exact ⟨rfl, hB⟩
  · have hv' : svalid s = false := by simpa using hv
    rw [if_neg hv]
    clear hv
    go_enter Try.func19, Try.ntmps19
    go_wp2_with (go_at_call 98; (with_reducible refine (dvvValid _ _ _ _ _ _ (hr.mono (bl_alloc hB0 (Nat.le_refl _) _)) (hs.mono (bl_alloc hB0 (Nat.le_refl _) _)) (by omega) hm).mono ?_); rintro e w2 ⟨rfl, hb2⟩)
    go_ret2
    exact ⟨rfl, (hB0.alloc (Nat.le_refl _) _).trans (hb2.mono (by simp))⟩
end Go.Proofs.Ytfdiedcleggfnaa
