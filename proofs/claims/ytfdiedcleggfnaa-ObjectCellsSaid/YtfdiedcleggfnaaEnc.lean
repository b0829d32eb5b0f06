/- The reference's bytes: Uint, Text, vectors, states. -/
import Derived.Test.YtfdiedcleggfnaaRef1
import Derived.Test.YtfdiedcleggfnaaWriter
import Derived.Test.YtfdiedcleggfnaaBase2
namespace Go.Proofs.Ytfdiedcleggfnaa
open Go.RowKit Go.Sort
attribute [local go_sem] grow_cell

theorem uintB_len (k : Nat) : ∀ n, n < 128 ^ (k + 1) → (uintB n).length ≤ k + 1 := by
  induction k with
  | zero => intro n h; rw [uintB, if_pos (by simpa using h)]; simp
  | succ k ih =>
    intro n h
    rw [uintB]
    split
    · simp
    · have h1 : n / 128 < 128 ^ (k + 1) := by rw [Nat.div_lt_iff_lt_mul (by decide)]; rw [Nat.pow_succ] at h; exact h
      have := ih _ h1
      simp only [List.length_cons]; omega
theorem uintB_len10 (n : Nat) (h : (n : Int) ≤ 18446744073709551615) : (uintB n).length ≤ 10 := uintB_len 9 n (by
  have : (128 : Nat) ^ (9 + 1) = 1180591620717411303424 := by decide
  omega)

set_option maxRecDepth 100000 in
set_option maxHeartbeats 2000000 in
theorem refUint (b : Int) (x : Nat) (hb : b = x) (hx : (x : Int) ≤ 18446744073709551615) (w : World) :
    Calls Try.prog 96 #[.int .u64 b] w fun e w' => e = .returned (.string (strB (uintB x))) ∧ Below w.heap.size w w' := by
  subst hb
  have HL := Lib.hid (uintB_len10 x hx)
  go_enter Try.func96, Try.ntmps96
  go_wp2
  go_loopw [0, 3] (fun v u W => ∃ (m : Nat) (cur : List UInt8), v = .int .u64 m ∧ (m : Int) ≤ 18446744073709551615 ∧ Own W (fun k => w.heap.size ≤ k) 5 1 u cur.length (vals cur) ∧ Hid (cur ++ uintB m = uintB x) ∧ Below w.heap.size w W) (fun v _ _ => (intOf v).toNat)
  case atStart => exact ⟨x, [], rfl, hx, Own.nil _ _ _ _, rfl, Below.refl _ _⟩
  case round =>
    obtain ⟨m, cur, rfl, hm, hv, hpre, hB⟩ := hrel
    have hlen : cur.length < 1000000000 := by
      have h1 := HL.out; have h2 := congrArg List.length hpre.out; simp only [List.length_append] at h2; omega
    obtain ⟨A, c, rfl⟩ := hv.form
    obtain ⟨i0, hi, hz0, hz1, hz2⟩ := info_parts infoU8
    have hS := hB.size
    by_cases h128 : 128 ≤ m
    · have h2 : Hid (uintB m = UInt8.ofNat (m % 128 + 128) :: uintB (m / 128)) := by unfold Hid; rw [uintB, if_neg (by omega)]
      have h3 : Hid (vals (cur ++ [UInt8.ofNat (m % 128 + 128)]) = vals cur ++ [Value.int .u8 ((m : Int) % 128 + 128)]) := by unfold Hid; simp [vals]; omega
      go_wp2_with (at_builtin; refine wpList_append_lies _ rfl (.tmp 6) (.tmp 11) 210 rfl 0 5 i0 (.int .u8 0) 1 1 Try.underlying210 hi hz0 hz1 hz2 rfl (by decide) _ _ _ rfl (hv.alloc _).1 ⟨wr.heap.size, 0, none⟩ 1 1 [.int .u8 ((m : Int) % 128 + 128)] rfl rfl (World.news_of_block (heap_alloc_new wr _)) (by simp [Value.oneCell']) (by decide) ?c3 ?c4 (Nat.zero_le _) _ rfl ?_; (case c3 => unfold maxLen; omega); (case c4 => omega); intro g1 cap w1 hown hgrow hat hlt; have hv2 : Own w1 (fun k => w.heap.size ≤ k) 5 1 (.slice (some ⟨g1, 0, none⟩) (cur.length + 1) cap) (cur ++ [UInt8.ofNat (m % 128 + 128)]).length (vals (cur ++ [UInt8.ofNat (m % 128 + 128)])) := own_grown hv hS hgrow hat (by rw [h3.out]; simpa using hown); have hB2 : Below w.heap.size w w1 := below_grown hB hv hgrow; clear hown hgrow hat)
      go_roundw
      case rel => exact ⟨m / 128, cur ++ [UInt8.ofNat (m % 128 + 128)], by go_num, by omega, hv2, by have := hpre.out; rw [h2.out] at this; simpa [Hid] using this, hB2⟩
      case measure => simp [intOf]; omega
    · have h2 : Hid (uintB m = [UInt8.ofNat m]) := by unfold Hid; rw [uintB, if_pos (by omega)]
      have h3 : Hid (vals (cur ++ [UInt8.ofNat m]) = vals cur ++ [Value.int .u8 (m : Int)]) := by unfold Hid; simp [vals]; omega
      go_wp2_with (at_builtin; refine wpList_append_lies _ rfl (.tmp 15) (.tmp 18) 210 rfl 0 5 i0 (.int .u8 0) 1 1 Try.underlying210 hi hz0 hz1 hz2 rfl (by decide) _ _ _ rfl (hv.alloc _).1 ⟨wr.heap.size, 0, none⟩ 1 1 [.int .u8 m] rfl rfl (World.news_of_block (heap_alloc_new wr _)) (by simp [Value.oneCell']) (by decide) ?c3 ?c4 (Nat.zero_le _) _ rfl ?_; (case c3 => unfold maxLen; omega); (case c4 => omega); intro g1 cap w1 hown hgrow hat hlt; have hv2 : Own w1 (fun k => w.heap.size ≤ k) 5 1 (.slice (some ⟨g1, 0, none⟩) (cur.length + 1) cap) (cur ++ [UInt8.ofNat m]).length (vals (cur ++ [UInt8.ofNat m])) := own_grown hv hS hgrow hat (by rw [h3.out]; simpa using hown); have hB2 : Below w.heap.size w w1 := below_grown hB hv hgrow; have hcv := run_told hv2 210 9 Try.underlying210 Try.underlying5 Try.underlying9; clear hown hgrow hat hv2)
      go_ret
      exact ⟨by have := hpre.out; rw [h2.out] at this; rw [← this]; rfl, hB2⟩

theorem refUintI (b : Int) (h0 : 0 ≤ b) (h1 : b ≤ 18446744073709551615) (w : World) :
    Calls Try.prog 96 #[.int .u64 b] w fun e w' => e = .returned (.string (strB (uintB b.toNat))) ∧ Below w.heap.size w w' :=
  refUint b b.toNat (by omega) (by omega) w

set_option maxRecDepth 100000 in
set_option maxHeartbeats 2000000 in
theorem refText (s : ByteArray) (w : World) (hs : s.size ≤ 140737488351232) :
    Calls Try.prog 97 #[.string s] w fun e w' => e = .returned (.string (strB (uintB s.size ++ s.data.toList))) ∧ Below w.heap.size w w' := by
  have HL := uintB_len10 s.size (by omega)
  have HE : Hid (strB (uintB s.size ++ s.data.toList) = strB (uintB s.size) ++ s) := by unfold Hid; rw [← strB_append, strB_data]
  have hsz : (strB (uintB s.size)).size ≤ 10 := by rw [strB_size]; exact HL
  have HL2 := Lib.hid HL
  clear HL
  go_enter Try.func97, Try.ntmps97
  go_wp2_with (go_at_call 96; (with_reducible refine (refUint _ s.size rfl (by omega) _).mono ?_); rintro e w2 ⟨rfl, hb2⟩)
  go_ret
  exact ⟨by rw [HE.out]; rfl, hb2⟩

/-! ### Vectors -/
def encDot (d : Dot) : List UInt8 := uintB d.a.toNat ++ uintB d.c.toNat
def encVec (xs : List Dot) : List UInt8 := uintB xs.length ++ (xs.map encDot).flatten
theorem take_succ_dot (xs : List Dot) (p : Nat) (h : p < xs.length) : xs.take (p + 1) = xs.take p ++ [dotAt xs p] := by
  rw [List.take_succ_eq_append_getElem h]; unfold dotAt; rw [List.getD_eq_getElem?_getD, List.getElem?_eq_getElem h]; rfl
theorem encDot_len {d : Dot} (h : dotWf d) : (encDot d).length ≤ 20 := by
  have := uintB_len10 d.a.toNat (by have := h.1; have := h.2.1; omega)
  have := uintB_len10 d.c.toNat (by have := h.2.2.1; have := h.2.2.2; omega)
  simp only [encDot, List.length_append]; omega
theorem flat_len {α : Type} (f : α → List UInt8) (K : Nat) (xs : List α) (h : ∀ x ∈ xs, (f x).length ≤ K) : ((xs.map f).flatten).length ≤ xs.length * K := by
  induction xs with
  | nil => simp
  | cons x xs ih =>
    have h1 := h x (by simp)
    have h2 := ih (fun y hy => h y (by simp [hy]))
    simp only [List.map_cons, List.flatten_cons, List.length_append, List.length_cons, Nat.add_mul]; omega

set_option maxRecDepth 100000 in
set_option maxHeartbeats 2000000 in
theorem refVecEncode (A : Option Addr) (c : Nat) (xs : List Dot) (w : World) (hr : RdD w A xs) :
    Calls Try.prog 95 #[.slice A xs.length c] w fun e w' => e = .returned (if vvalid xs = true then .tuple #[.string (strB (encVec xs)), .int .i64 0] else .tuple #[.string ⟨#[]⟩, .int .i64 100]) ∧ Below w.heap.size w w' := by
  by_cases hv : vvalid xs = true
  · rw [if_pos hv]
    have hn : xs.length ≤ 64 := (of_decide_eq_true hv).1
    go_enter Try.func95, Try.ntmps95
    go_wp2_with (first | (go_at_call 188; (with_reducible refine (refVecValid _ _ _ _ hr).mono ?_); rintro e w2 ⟨rfl, hb2⟩) | (go_at_call 96; (with_reducible refine (refUint _ xs.length rfl (by omega) _).mono ?_); rintro e w3 ⟨rfl, hb3⟩))
    go_loopw [4, 5] (fun t i W => ∃ p : Nat, i = .int .i64 p ∧ p ≤ xs.length ∧ t = .string (strB (uintB xs.length ++ ((xs.take p).map encDot).flatten)) ∧ Below w.heap.size w W) (fun _ i _ => xs.length - (intOf i).toNat)
    case atStart => exact ⟨0, rfl, Nat.zero_le _, by simp, below_of hb2 hb3⟩
    case round =>
      obtain ⟨p, rfl, hp, rfl, hB⟩ := hrel
      have hS := hB.size
      by_cases hlt : p < xs.length
      · obtain ⟨b, o, rfl, hb, c1, c2⟩ := (hr.mono hB).at_ hlt
        obtain ⟨u1, u2, u3, u4⟩ := hr.wf hlt
        have hs1 : (strB (uintB (dotAt xs p).a.toNat)).size ≤ 10 := by rw [strB_size]; exact uintB_len10 _ (by omega)
        have hs2 : (strB (uintB (dotAt xs p).c.toNat)).size ≤ 10 := by rw [strB_size]; exact uintB_len10 _ (by omega)
        have hs3 : (strB (uintB xs.length ++ ((xs.take p).map encDot).flatten)).size ≤ 2000 := by
          rw [strB_size, List.length_append]
          have h1 := uintB_len10 xs.length (by omega)
          have h2 := flat_len encDot 20 (xs.take p) (fun x hx => encDot_len (hr.2 x (List.mem_of_mem_take hx)))
          have h3 := List.length_take_le p xs
          have h4 : (xs.take p).length * 20 ≤ 64 * 20 := Nat.mul_le_mul_right _ (by omega)
          omega
        have hstep : Hid (strB (uintB xs.length ++ ((xs.take (p + 1)).map encDot).flatten) = strB (uintB xs.length ++ ((xs.take p).map encDot).flatten) ++ strB (uintB (dotAt xs p).a.toNat) ++ strB (uintB (dotAt xs p).c.toNat)) := by
          unfold Hid
          rw [strB_append, strB_append, take_succ_dot xs p hlt]
          simp [encDot]
        generalize strB (uintB xs.length ++ ((xs.take p).map encDot).flatten) = acc at *
        go_wp2
        (refine wp_region_quiet_below (by kernel_rfl) (by kernel_rfl) ?_; (repeat (first | go_big_quiet_step (refine Calls.regrown_of (refUintI _ ?_ ?_ _) <;> omega) | quiet_step (refine Calls.regrown_of (refUintI _ ?_ ?_ _) <;> omega))); refine wpQuiet_nil ?_; intro _ hw'; obtain ⟨⟨dq, osq⟩, hw''⟩ := hw'; subst hw'')
        go_wp2
        go_roundw
        case rel => exact ⟨p + 1, by go_num, by omega, by rw [hstep.out], by repeat first | exact hB | (refine bl_drewN ?_ _) | (refine bl_drew ?_) | (refine bl_grow ?_ (by first | omega | (simp; omega) | simp) _ _) | (refine bl_set ?_ (by first | omega | (simp; omega) | simp) _) | (refine bl_alloc ?_ (by first | omega | (simp; omega) | simp) _)⟩
        case measure => simp [intOf]; omega
      · have hall : Hid (xs.take p = xs) := List.take_of_length_le (by omega)
        go_wp2
        go_ret2
        exact ⟨by rw [hall.out]; rfl, hB⟩
  · have hv' : vvalid xs = false := by simpa using hv
    rw [if_neg hv]
    clear hv
    go_enter Try.func95, Try.ntmps95
    go_wp2_with (go_at_call 188; (with_reducible refine (refVecValid _ _ _ _ hr).mono ?_); rintro e w2 ⟨rfl, hb2⟩)
    go_ret2
    exact ⟨rfl, hb2⟩

/-! ### States -/
def encSib (s : Sib) : List UInt8 := encDot s.d ++ ((if s.g then 1 else 0) :: (uintB s.v.size ++ s.v.data.toList))
def encSt (s : St) : List UInt8 := encVec s.seen ++ (uintB s.sibs.length ++ (s.sibs.map encSib).flatten)
theorem take_succ_sib (xs : List Sib) (p : Nat) (h : p < xs.length) : xs.take (p + 1) = xs.take p ++ [sibAt xs p] := by
  rw [List.take_succ_eq_append_getElem h]; unfold sibAt; rw [List.getD_eq_getElem?_getD, List.getElem?_eq_getElem h]; rfl
theorem encSib_len {s : Sib} (h : dotWf s.d) (h2 : s.v.size ≤ 40) : (encSib s).length ≤ 71 := by
  have h1 := encDot_len h
  have h3 := uintB_len10 s.v.size (by omega)
  have h4 : s.v.data.toList.length = s.v.size := Array.length_toList
  simp only [encSib, List.length_append, List.length_cons]; omega
theorem encVec_len {xs : List Dot} (h : ∀ d ∈ xs, dotWf d) (hn : xs.length ≤ 64) : (encVec xs).length ≤ 1290 := by
  have h1 := uintB_len10 xs.length (by omega)
  have h2 := flat_len encDot 20 xs (fun x hx => encDot_len (h x hx))
  have h4 : xs.length * 20 ≤ 64 * 20 := Nat.mul_le_mul_right _ hn
  simp only [encVec, List.length_append]; omega
theorem svalid_val {s : St} (h : svalid s = true) {x : Sib} (hx : x ∈ s.sibs) : x.v.size ≤ 40 := by
  obtain ⟨i, hi, rfl⟩ := List.getElem_of_mem hx
  have := ((of_decide_eq_true h).2.2 i hi).2.2.1
  unfold sibAt at this
  rwa [List.getD_eq_getElem?_getD, List.getElem?_eq_getElem hi] at this
theorem svalid_parts {s : St} (h : svalid s = true) : vvalid s.seen = true ∧ s.seen.length ≤ 64 ∧ s.sibs.length ≤ 64 := by
  have := of_decide_eq_true h
  exact ⟨this.1, (of_decide_eq_true this.1).1, this.2.1⟩

set_option maxRecDepth 100000 in
set_option maxHeartbeats 2000000 in
theorem refEncode (A B : Option Addr) (c d : Nat) (s : St) (w : World) (hr : RdD w A s.seen) (hs : RdS w B s.sibs) (hm : s.sibs.length ≤ 4611686018427387904) :
    Calls Try.prog 18 #[.agg #[.slice A s.seen.length c, .slice B s.sibs.length d]] w fun e w' => e = .returned (if svalid s = true then .tuple #[.string (strB (encSt s)), .int .i64 0] else .tuple #[.string ⟨#[]⟩, .int .i64 110]) ∧ Below w.heap.size w w' := by
  have hB0 := Below.refl w.heap.size w
  by_cases hv : svalid s = true
  · rw [if_pos hv]
    obtain ⟨hvv, hn, hl⟩ := svalid_parts hv
    have hE : ∀ W, RdD W A s.seen → Calls Try.prog 95 #[.slice A s.seen.length c] W fun e w' => e = .returned (.tuple #[.string (strB (encVec s.seen)), .int .i64 0]) ∧ Below W.heap.size W w' := fun W h => by
      have := refVecEncode A c s.seen W h; rwa [if_pos hvv] at this
    have HV := Lib.hid hvv
    have hs0 : (strB (encVec s.seen)).size ≤ 1290 := by rw [strB_size]; exact encVec_len hr.2 hn
    have hs1 : (strB (uintB s.sibs.length)).size ≤ 10 := by rw [strB_size]; exact uintB_len10 _ (by omega)
    clear hvv
    go_enter Try.func18, Try.ntmps18
    go_wp2_with (first
      | (go_at_call 94; (with_reducible refine (refValid _ _ _ _ _ _ (hr.mono (bl_alloc hB0 (Nat.le_refl _) _)) (hs.mono (bl_alloc hB0 (Nat.le_refl _) _)) hm).mono ?_); rintro e w2 ⟨rfl, hb2⟩; have hB2 : Below w.heap.size w w2 := (hB0.alloc (Nat.le_refl _) _).trans (hb2.mono (by simp)); have hc0 : w2.cell? ⟨w.heap.size, 0, none⟩ = some (.slice A s.seen.length c) := below_cell hb2 (by go_simp); have hc1 : w2.cell? ⟨w.heap.size, 1, none⟩ = some (.slice B s.sibs.length d) := below_cell hb2 (by go_simp))
      | (go_at_call 95; (refine (hE _ (hr.mono hB2)).mono ?_); rintro e w3 ⟨rfl, hb3⟩; have hB3 : Below w.heap.size w w3 := bl_to hB2 hb3 hB2.size; have hc3 : w3.cell? ⟨w.heap.size, 0, none⟩ = some (.slice A s.seen.length c) := below_cell hb3 hc0; have hc4 : w3.cell? ⟨w.heap.size, 1, none⟩ = some (.slice B s.sibs.length d) := below_cell hb3 hc1)
      | (go_at_call 96; (with_reducible refine (refUint _ s.sibs.length rfl (by omega) _).mono ?_); rintro e w4 ⟨rfl, hb4⟩))
    have hB4 : Below w.heap.size w w4 := bl_to hB3 hb4 hB3.size
    go_loopw [4, 6] (fun t i W => ∃ p : Nat, i = .int .i64 p ∧ p ≤ s.sibs.length ∧ t = .string (strB (encVec s.seen ++ (uintB s.sibs.length ++ ((s.sibs.take p).map encSib).flatten))) ∧ Below w.heap.size w W ∧ W.cell? ⟨w.heap.size, 0, none⟩ = some (.slice A s.seen.length c) ∧ W.cell? ⟨w.heap.size, 1, none⟩ = some (.slice B s.sibs.length d)) (fun _ i _ => s.sibs.length - (intOf i).toNat)
    case atStart => exact ⟨0, rfl, Nat.zero_le _, by simp [strB_append], hB4, below_cell hb4 hc3, below_cell hb4 hc4⟩
    case round =>
      clear hB4 hB3 hB2 hb4 hb3 hb2 hc0 hc1 hc3 hc4 hs0 hs1
      obtain ⟨p, rfl, hp, rfl, hB, e0, e1⟩ := hrel
      have hS := hB.size
      have hz : w.heap.size < wr.heap.size := World.block_lt_of_cell? wr _ e0
      have hz1 : w.heap.size < wr.heap.size + 1 := by omega
      by_cases hlt : p < s.sibs.length
      · obtain ⟨b, o, rfl, hb, c1, c2, c3, c4⟩ := (hs.mono hB).at_ hlt
        have hb1 : b < wr.heap.size + 1 := by omega
        have hwf := hs.wf hlt
        obtain ⟨u1, u2, u3, u4⟩ := hwf.1
        have hv40 : (sibAt s.sibs p).v.size ≤ 40 := svalid_val hv (sibAt_mem hlt)
        have hs1 : (strB (uintB (sibAt s.sibs p).d.a.toNat)).size ≤ 10 := by rw [strB_size]; exact uintB_len10 _ (by omega)
        have hs2 : (strB (uintB (sibAt s.sibs p).d.c.toNat)).size ≤ 10 := by rw [strB_size]; exact uintB_len10 _ (by omega)
        have hs4 : (strB (uintB (sibAt s.sibs p).v.size ++ (sibAt s.sibs p).v.data.toList)).size ≤ 50 := by
          rw [strB_size, List.length_append]
          have := uintB_len10 (sibAt s.sibs p).v.size (by omega)
          have h4 : (sibAt s.sibs p).v.data.toList.length = (sibAt s.sibs p).v.size := Array.length_toList
          omega
        have hs3 : (strB (encVec s.seen ++ (uintB s.sibs.length ++ ((s.sibs.take p).map encSib).flatten))).size ≤ 7000 := by
          rw [strB_size, List.length_append, List.length_append]
          have h0 := encVec_len hr.2 hn
          have h1 := uintB_len10 s.sibs.length (by omega)
          have h2 := flat_len encSib 71 (s.sibs.take p) (fun x hx => encSib_len (hs.2 x (List.mem_of_mem_take hx)).1 (svalid_val hv (List.mem_of_mem_take hx)))
          have h3 := List.length_take_le p s.sibs
          have h4 : (s.sibs.take p).length * 71 ≤ 64 * 71 := Nat.mul_le_mul_right _ (by omega)
          omega
        have hstep : Hid (strB (encVec s.seen ++ (uintB s.sibs.length ++ ((s.sibs.take (p + 1)).map encSib).flatten)) =
            strB (encVec s.seen ++ (uintB s.sibs.length ++ ((s.sibs.take p).map encSib).flatten)) ++ strB (uintB (sibAt s.sibs p).d.a.toNat) ++ strB (uintB (sibAt s.sibs p).d.c.toNat) ++ strB [if (sibAt s.sibs p).g then 1 else 0] ++ strB (uintB (sibAt s.sibs p).v.size ++ (sibAt s.sibs p).v.data.toList)) := by
          unfold Hid
          rw [strB_append, strB_append, strB_append, strB_append, take_succ_sib s.sibs p hlt]
          simp [encSib, encDot]
        generalize strB (encVec s.seen ++ (uintB s.sibs.length ++ ((s.sibs.take p).map encSib).flatten)) = acc at *
        have hvs := hwf.2
        have HWF := Lib.hid hwf
        clear hwf
        cases hg : (sibAt s.sibs p).g
        all_goals
          go_wp2
          (refine wp_region_quiet_below (by kernel_rfl) (by kernel_rfl) ?_; (repeat (first | go_big_quiet_step (first | exact Calls.regrown_of (refText _ _ hvs) | (refine Calls.regrown_of (refUintI _ ?_ ?_ _) <;> omega)) | quiet_step (first | exact Calls.regrown_of (refText _ _ hvs) | (refine Calls.regrown_of (refUintI _ ?_ ?_ _) <;> omega)))); refine wpQuiet_nil ?_; intro _ hw'; obtain ⟨⟨dq, osq⟩, hw''⟩ := hw'; subst hw'')
          go_wp2
          go_roundw
          case rel => exact ⟨p + 1, by go_num, by omega, by rw [hstep.out, hg]; rfl, by repeat first | exact hB | (refine bl_drewN ?_ _) | (refine bl_drew ?_) | (refine bl_grow ?_ (by first | omega | (simp; omega) | simp) _ _) | (refine bl_set ?_ (by first | omega | (simp; omega) | simp) _) | (refine bl_alloc ?_ (by first | omega | (simp; omega) | simp) _), by go_simp, by go_simp⟩
          case measure => simp [intOf]; omega
      · have hall : Hid (s.sibs.take p = s.sibs) := List.take_of_length_le (by omega)
        go_wp2
        go_ret2
        exact ⟨by rw [hall.out]; rfl, hB⟩
  · have hv' : svalid s = false := by simpa using hv
    rw [if_neg hv]
    clear hv
    go_enter Try.func18, Try.ntmps18
    go_wp2_with (go_at_call 94; (with_reducible refine (refValid _ _ _ _ _ _ (hr.mono (bl_alloc hB0 (Nat.le_refl _) _)) (hs.mono (bl_alloc hB0 (Nat.le_refl _) _)) hm).mono ?_); rintro e w2 ⟨rfl, hb2⟩)
    go_ret2
    exact ⟨rfl, (hB0.alloc (Nat.le_refl _) _).trans (hb2.mono (by simp))⟩
end Go.Proofs.Ytfdiedcleggfnaa
