/- The reference's vectors and states: Valid, Count, Covers, Same, Ahead. -/
import Derived.Test.YtfdiedcleggfnaaDvv1
namespace Go.Proofs.Ytfdiedcleggfnaa
open Go.RowKit Go.Sort
attribute [local go_sem] grow_cell

set_option maxRecDepth 100000 in
set_option maxHeartbeats 2000000 in
theorem refVecValid (A : Option Addr) (c : Nat) (xs : List Dot) (w : World) (hr : RdD w A xs) :
    Calls Try.prog 188 #[.slice A xs.length c] w fun e w' => e = .returned (.bool (vvalid xs)) ∧ Below w.heap.size w w' := by
  by_cases hn : xs.length ≤ 64
  · have hn' : decide ((64 : Int) < (xs.length : Int)) = false := decide_eq_false (by omega)
    go_enter Try.func188, Try.ntmps188
    go_wp2
    go_loopw [3] (fun i W => ∃ p : Nat, i = .int .i64 p ∧ p ≤ xs.length ∧ Hid (∀ i, i < p → dotOk xs i) ∧ Below w.heap.size w W) (fun i _ => xs.length - (intOf i).toNat)
    case atStart => exact ⟨0, rfl, Nat.zero_le _, (fun i hi => by omega), Below.refl _ _⟩
    case round =>
      obtain ⟨p, rfl, hp, hok, hB⟩ := hrel
      have hS := hB.size
      by_cases hlt : p < xs.length
      · obtain ⟨b, o, rfl, hb, c1, c2⟩ := (hr.mono hB).at_ hlt
        have hwf : 0 ≤ (dotAt xs p).c := (hr.wf hlt).2.2.1
        by_cases h0 : (dotAt xs p).c < 1
        · have hd : decide ((dotAt xs p).c < 1) = true := decide_eq_true h0
          have hno : Hid (vvalid xs = false) := vvalid_no hlt (by unfold dotOk; omega)
          go_wp2
          go_quiet (fail)
          go_wp2
          go_ret
          exact ⟨by rw [hno.out]; rfl, by repeat first | exact hB | (refine bl_drewN ?_ _) | (refine bl_drew ?_) | (refine bl_grow ?_ (by first | omega | (simp; omega) | simp) _ _) | (refine bl_set ?_ (by first | omega | (simp; omega) | simp) _) | (refine bl_alloc ?_ (by first | omega | (simp; omega) | simp) _)⟩
        · have hd : decide ((dotAt xs p).c < 1) = false := decide_eq_false h0
          by_cases h1 : 1099511627776 < (dotAt xs p).c
          · have hd1 : decide (1099511627776 < (dotAt xs p).c) = true := decide_eq_true h1
            have hno : Hid (vvalid xs = false) := vvalid_no hlt (by unfold dotOk; omega)
            go_wp2
            go_quiet (fail)
            go_wp2
            go_ret
            exact ⟨by rw [hno.out]; rfl, by repeat first | exact hB | (refine bl_drewN ?_ _) | (refine bl_drew ?_) | (refine bl_grow ?_ (by first | omega | (simp; omega) | simp) _ _) | (refine bl_set ?_ (by first | omega | (simp; omega) | simp) _) | (refine bl_alloc ?_ (by first | omega | (simp; omega) | simp) _)⟩
          · have hd1 : decide (1099511627776 < (dotAt xs p).c) = false := decide_eq_false h1
            by_cases hp0 : 0 < p
            · have hd2 : decide ((0 : Int) < p) = true := by simp; omega
              have hlt' : p - 1 < xs.length := by omega
              obtain ⟨b', o', e, hb', c3, c4⟩ := (hr.mono hB).at_ hlt'
              cases e
              by_cases h3 : (dotAt xs p).a ≤ (dotAt xs (p - 1)).a
              · have hd3 : decide ((dotAt xs p).a ≤ (dotAt xs (p - 1)).a) = true := decide_eq_true h3
                have hno : Hid (vvalid xs = false) := vvalid_no hlt (by unfold dotOk; omega)
                have hq1 : (1 : Int) ≤ p := by omega
                go_wp2
                go_quiet (fail)
                go_wp2
                go_ret
                exact ⟨by rw [hno.out]; rfl, by repeat first | exact hB | (refine bl_drewN ?_ _) | (refine bl_drew ?_) | (refine bl_grow ?_ (by first | omega | (simp; omega) | simp) _ _) | (refine bl_set ?_ (by first | omega | (simp; omega) | simp) _) | (refine bl_alloc ?_ (by first | omega | (simp; omega) | simp) _)⟩
              · have hd3 : decide ((dotAt xs p).a ≤ (dotAt xs (p - 1)).a) = false := decide_eq_false h3
                have hok' : Hid (∀ i, i < p + 1 → dotOk xs i) := fun i hi => by
                  by_cases e : i < p
                  · exact hok i e
                  · obtain rfl : i = p := by omega
                    unfold dotOk; exact ⟨by omega, by omega, fun _ => by omega⟩
                have hq1 : (1 : Int) ≤ p := by omega
                go_wp2
                go_quiet (fail)
                go_wp2
                go_roundw
                case rel => exact ⟨p + 1, by go_num, by omega, hok', by repeat first | exact hB | (refine bl_drewN ?_ _) | (refine bl_drew ?_) | (refine bl_grow ?_ (by first | omega | (simp; omega) | simp) _ _) | (refine bl_set ?_ (by first | omega | (simp; omega) | simp) _) | (refine bl_alloc ?_ (by first | omega | (simp; omega) | simp) _)⟩
                case measure => simp [intOf]; omega
            · have hd2 : decide ((0 : Int) < p) = false := by simp; omega
              have hok' : Hid (∀ i, i < p + 1 → dotOk xs i) := fun i hi => by
                by_cases e : i < p
                · exact hok i e
                · obtain rfl : i = p := by omega
                  unfold dotOk; exact ⟨by omega, by omega, fun _ => by omega⟩
              go_wp2
              go_quiet (fail)
              go_wp2
              go_roundw
              case rel => exact ⟨p + 1, by go_num, by omega, hok', by repeat first | exact hB | (refine bl_drewN ?_ _) | (refine bl_drew ?_) | (refine bl_grow ?_ (by first | omega | (simp; omega) | simp) _ _) | (refine bl_set ?_ (by first | omega | (simp; omega) | simp) _) | (refine bl_alloc ?_ (by first | omega | (simp; omega) | simp) _)⟩
              case measure => simp [intOf]; omega
      · obtain rfl : p = xs.length := by omega
        have he : Hid (vvalid xs = true) := by unfold Hid; rw [vvalid_end hok]; exact decide_eq_true (by omega)
        go_wp2
        go_ret
        exact ⟨by rw [he.out]; first | rfl | (simp; done), hB⟩
  · have hn' : decide ((64 : Int) < (xs.length : Int)) = true := decide_eq_true (by omega)
    have he : Hid (vvalid xs = false) := by unfold Hid vvalid; rw [decide_eq_false_iff_not]; exact fun h => hn h.1
    go_enter Try.func188, Try.ntmps188
    go_wp2
    go_ret
    exact ⟨by rw [he.out]; rfl, Below.refl _ _⟩

set_option maxRecDepth 100000 in
set_option maxHeartbeats 2000000 in
theorem refCount (A : Option Addr) (c : Nat) (xs : List Dot) (t : Int) (w : World) (hr : RdD w A xs) :
    Calls Try.prog 207 #[.slice A xs.length c, .int .u32 t] w fun e w' => e = .returned (.int .u64 (vcount xs t)) ∧ Below w.heap.size w w' := by
  by_cases hv : vvalid xs = true
  · have hn : xs.length ≤ 64 := (of_decide_eq_true hv).1
    have hz : Hid (vcount xs t = vlook xs t) := if_pos hv
    go_enter Try.func207, Try.ntmps207
    go_wp2_with (go_at_call 188; (with_reducible refine (refVecValid _ _ _ _ hr).mono ?_); rintro e w2 ⟨rfl, hb2⟩)
    go_loopw [5] (fun i W => ∃ p : Nat, i = .int .i64 p ∧ p ≤ xs.length ∧ Hid (∀ i, i < p → (dotAt xs i).a ≠ t) ∧ Below w.heap.size w W) (fun i _ => xs.length - (intOf i).toNat)
    case atStart => exact ⟨0, rfl, Nat.zero_le _, (fun i hi => by omega), hb2⟩
    case round =>
      obtain ⟨p, rfl, hp, hok, hB⟩ := hrel
      by_cases hlt : p < xs.length
      · obtain ⟨b, o, rfl, hb, c1, c2⟩ := (hr.mono hB).at_ hlt
        by_cases h : (dotAt xs p).a = t
        · have hd : ((dotAt xs p).a == t) = true := by simpa using h
          have hfin : Hid (vlook xs t = (dotAt xs p).c) := vlook_at hlt hok h
          clear h
          go_wp2
          go_ret
          exact ⟨by rw [hz.out, hfin.out]; rfl, hB⟩
        · have hd : ((dotAt xs p).a == t) = false := by simpa using h
          have hok' : Hid (∀ i, i < p + 1 → (dotAt xs i).a ≠ t) := fun i hi => by
            by_cases e : i < p
            · exact hok i e
            · obtain rfl : i = p := by omega
              exact h
          clear h
          go_wp2
          go_roundw
          case rel => exact ⟨p + 1, by go_num, by omega, hok', hB⟩
          case measure => simp [intOf]; omega
      · have hfin : Hid (vlook xs t = 0) := vlook_none (fun i hi => hok i (by omega))
        obtain rfl : p = xs.length := by omega
        go_wp2
        go_ret
        exact ⟨by rw [hz.out, hfin.out]; rfl, hB⟩
  · have hv' : vvalid xs = false := by simpa using hv
    have hz : Hid (vcount xs t = 0) := if_neg hv
    clear hv
    go_enter Try.func207, Try.ntmps207
    go_wp2_with (go_at_call 188; (with_reducible refine (refVecValid _ _ _ _ hr).mono ?_); rintro e w2 ⟨rfl, hb2⟩)
    go_ret
    exact ⟨by rw [hz.out]; rfl, hb2⟩

set_option maxRecDepth 100000 in
set_option maxHeartbeats 2000000 in
theorem refCovers (A : Option Addr) (c : Nat) (xs : List Dot) (d : Dot) (w : World) (hr : RdD w A xs) :
    Calls Try.prog 190 #[.slice A xs.length c, .agg #[.int .u32 d.a, .int .u64 d.c]] w fun e w' => e = .returned (.bool (vcovers xs d)) ∧ Below w.heap.size w w' := by
  have hB := Below.refl w.heap.size w
  by_cases h : 1 ≤ d.c
  · have hd : decide (1 ≤ d.c) = true := decide_eq_true h
    have he : Hid (vcovers xs d = decide (d.c ≤ vcount xs d.a)) := by unfold Hid vcovers; rw [decide_eq_decide]; omega
    go_enter Try.func190, Try.ntmps190
    go_wp2
    (refine wp_region_quiet_below (by kernel_rfl) (by kernel_rfl) ?_; (repeat (first | go_big_quiet_step (exact Calls.regrown_of (refCount _ _ _ _ _ (hr.mono (by repeat first | exact hB | (refine bl_drewN ?_ _) | (refine bl_drew ?_) | (refine bl_grow ?_ (by first | omega | (simp; omega) | simp) _ _) | (refine bl_set ?_ (by first | omega | (simp; omega) | simp) _) | (refine bl_alloc ?_ (by first | omega | (simp; omega) | simp) _))))) | quiet_step (exact Calls.regrown_of (refCount _ _ _ _ _ (hr.mono (by repeat first | exact hB | (refine bl_drewN ?_ _) | (refine bl_drew ?_) | (refine bl_grow ?_ (by first | omega | (simp; omega) | simp) _ _) | (refine bl_set ?_ (by first | omega | (simp; omega) | simp) _) | (refine bl_alloc ?_ (by first | omega | (simp; omega) | simp) _))))))); refine wpQuiet_nil ?_; intro _ hw'; obtain ⟨⟨dq, osq⟩, hw''⟩ := hw'; subst hw'')
    go_wp2
    go_ret
    exact ⟨by rw [he.out]; rfl, by repeat first | exact hB | (refine bl_drewN ?_ _) | (refine bl_drew ?_) | (refine bl_grow ?_ (by first | omega | (simp; omega) | simp) _ _) | (refine bl_set ?_ (by first | omega | (simp; omega) | simp) _) | (refine bl_alloc ?_ (by first | omega | (simp; omega) | simp) _)⟩
  · have hd : decide (1 ≤ d.c) = false := decide_eq_false h
    have he : Hid (vcovers xs d = false) := by unfold Hid vcovers; rw [decide_eq_false_iff_not]; omega
    go_enter Try.func190, Try.ntmps190
    go_wp2
    (refine wp_region_quiet_below (by kernel_rfl) (by kernel_rfl) ?_; (repeat (first | go_big_quiet_step (fail) | quiet_step (fail))); refine wpQuiet_nil ?_; intro _ hw'; obtain ⟨⟨dq, osq⟩, hw''⟩ := hw'; subst hw'')
    go_wp2
    go_ret
    exact ⟨by rw [he.out]; rfl, by repeat first | exact hB | (refine bl_drewN ?_ _) | (refine bl_drew ?_) | (refine bl_grow ?_ (by first | omega | (simp; omega) | simp) _ _) | (refine bl_set ?_ (by first | omega | (simp; omega) | simp) _) | (refine bl_alloc ?_ (by first | omega | (simp; omega) | simp) _)⟩

theorem dots_eq {xs ys : List Dot} (hl : xs.length = ys.length) (h : ∀ i, i < xs.length → dotAt xs i = dotAt ys i) : xs = ys := by
  apply List.ext_getElem hl
  intro i h1 h2
  have := h i h1
  unfold dotAt at this
  rwa [List.getD_eq_getElem?_getD, List.getD_eq_getElem?_getD, List.getElem?_eq_getElem h1, List.getElem?_eq_getElem h2] at this

set_option maxRecDepth 100000 in
set_option maxHeartbeats 2000000 in
theorem refVecSame (A B : Option Addr) (c d : Nat) (xs ys : List Dot) (w : World) (hr : RdD w A xs) (hs : RdD w B ys) (hn : xs.length ≤ 4611686018427387904) (hm : ys.length ≤ 4611686018427387904) :
    Calls Try.prog 113 #[.slice A xs.length c, .slice B ys.length d] w fun e w' => e = .returned (.bool (decide (xs = ys))) ∧ Below w.heap.size w w' := by
  by_cases hl : xs.length = ys.length
  · have hd : (xs.length == ys.length) = true := by simpa using hl
    have HL := Lib.hid hl
    clear hl
    go_enter Try.func113, Try.ntmps113
    go_wp2
    go_loopw [5] (fun i W => ∃ p : Nat, i = .int .i64 p ∧ p ≤ xs.length ∧ Hid (∀ i, i < p → dotAt xs i = dotAt ys i) ∧ Below w.heap.size w W) (fun i _ => xs.length - (intOf i).toNat)
    case atStart => exact ⟨0, rfl, Nat.zero_le _, (fun i hi => by omega), Below.refl _ _⟩
    case round =>
      obtain ⟨p, rfl, hp, hok, hB⟩ := hrel
      by_cases hlt : p < xs.length
      · have hlt2 : p < ys.length := by have := HL.out; omega
        obtain ⟨b, o, rfl, hb, c1, c2⟩ := (hr.mono hB).at_ hlt
        obtain ⟨b', o', rfl, hb', d1, d2⟩ := (hs.mono hB).at_ hlt2
        by_cases h : dotAt xs p = dotAt ys p
        · have hok' : Hid (∀ i, i < p + 1 → dotAt xs i = dotAt ys i) := fun i hi => by
            by_cases e : i < p
            · exact hok i e
            · obtain rfl : i = p := by omega
              exact h
          have ha : ((dotAt xs p).a == (dotAt ys p).a) = true := by simp [h]
          have hc : ((dotAt xs p).c == (dotAt ys p).c) = true := by simp [h]
          clear h
          go_wp2
          go_quiet (fail)
          go_wp2
          go_roundw
          case rel => exact ⟨p + 1, by go_num, by omega, hok', by repeat first | exact hB | (refine bl_drewN ?_ _) | (refine bl_drew ?_) | (refine bl_grow ?_ (by first | omega | (simp; omega) | simp) _ _) | (refine bl_set ?_ (by first | omega | (simp; omega) | simp) _) | (refine bl_alloc ?_ (by first | omega | (simp; omega) | simp) _)⟩
          case measure => simp [intOf]; omega
        · have hno : Hid (decide (xs = ys) = false) := by
            refine decide_eq_false fun e => h ?_
            rw [e]
          by_cases ha : (dotAt xs p).a = (dotAt ys p).a
          · have hcn : (dotAt xs p).c ≠ (dotAt ys p).c := fun e => h (by
              cases hx : dotAt xs p; cases hy : dotAt ys p; simp only [hx, hy] at ha e; rw [ha, e])
            have ha' : ((dotAt xs p).a == (dotAt ys p).a) = true := by simpa using ha
            have hc' : ((dotAt xs p).c == (dotAt ys p).c) = false := by simpa using hcn
            clear h ha hcn
            go_wp2
            go_quiet (fail)
            go_wp2
            go_ret
            exact ⟨by rw [hno.out]; rfl, by repeat first | exact hB | (refine bl_drewN ?_ _) | (refine bl_drew ?_) | (refine bl_grow ?_ (by first | omega | (simp; omega) | simp) _ _) | (refine bl_set ?_ (by first | omega | (simp; omega) | simp) _) | (refine bl_alloc ?_ (by first | omega | (simp; omega) | simp) _)⟩
          · have ha' : ((dotAt xs p).a == (dotAt ys p).a) = false := by simpa using ha
            clear h ha
            go_wp2
            go_quiet (fail)
            go_wp2
            go_ret
            exact ⟨by rw [hno.out]; rfl, by repeat first | exact hB | (refine bl_drewN ?_ _) | (refine bl_drew ?_) | (refine bl_grow ?_ (by first | omega | (simp; omega) | simp) _ _) | (refine bl_set ?_ (by first | omega | (simp; omega) | simp) _) | (refine bl_alloc ?_ (by first | omega | (simp; omega) | simp) _)⟩
      · have hfin : Hid (decide (xs = ys) = true) := decide_eq_true (dots_eq HL.out (fun i hi => hok i (by omega)))
        obtain rfl : p = xs.length := by omega
        go_wp2
        go_ret
        exact ⟨by rw [hfin.out]; rfl, hB⟩
  · have hd : (xs.length == ys.length) = false := by simpa using hl
    have hno : Hid (decide (xs = ys) = false) := decide_eq_false fun e => hl (by rw [e])
    clear hl
    go_enter Try.func113, Try.ntmps113
    go_wp2
    go_ret
    exact ⟨by rw [hno.out]; rfl, Below.refl _ _⟩

/-! ### States -/
set_option maxRecDepth 100000 in
set_option maxHeartbeats 2000000 in
theorem refAhead (x y : Dot) (w : World) :
    Calls Try.prog 189 #[.agg #[.int .u32 x.a, .int .u64 x.c], .agg #[.int .u32 y.a, .int .u64 y.c]] w fun e w' => e = .returned (.bool (ahead x y)) ∧ Below w.heap.size w w' := by
  have hB := Below.refl w.heap.size w
  by_cases h : x.a < y.a
  · have hd : decide (x.a < y.a) = true := decide_eq_true h
    have he : Hid (ahead x y = true) := decide_eq_true (.inl h)
    go_enter Try.func189, Try.ntmps189
    go_wp2
    go_ret
    exact ⟨by rw [he.out]; rfl, by repeat first | exact hB | (refine bl_drewN ?_ _) | (refine bl_drew ?_) | (refine bl_grow ?_ (by first | omega | (simp; omega) | simp) _ _) | (refine bl_set ?_ (by first | omega | (simp; omega) | simp) _) | (refine bl_alloc ?_ (by first | omega | (simp; omega) | simp) _)⟩
  · have hd : decide (x.a < y.a) = false := decide_eq_false h
    by_cases h2 : x.a = y.a
    · have hd2 : (x.a == y.a) = true := by simpa using h2
      have he : Hid (ahead x y = decide (x.c < y.c)) := by unfold Hid ahead; rw [decide_eq_decide]; omega
      clear h2
      go_enter Try.func189, Try.ntmps189
      go_wp2
      go_ret
      exact ⟨by rw [he.out]; rfl, by repeat first | exact hB | (refine bl_drewN ?_ _) | (refine bl_drew ?_) | (refine bl_grow ?_ (by first | omega | (simp; omega) | simp) _ _) | (refine bl_set ?_ (by first | omega | (simp; omega) | simp) _) | (refine bl_alloc ?_ (by first | omega | (simp; omega) | simp) _)⟩
    · have hd2 : (x.a == y.a) = false := by simpa using h2
      have he : Hid (ahead x y = false) := by unfold Hid ahead; rw [decide_eq_false_iff_not]; omega
      clear h2
      go_enter Try.func189, Try.ntmps189
      go_wp2
      go_ret
      exact ⟨by rw [he.out]; rfl, by repeat first | exact hB | (refine bl_drewN ?_ _) | (refine bl_drew ?_) | (refine bl_grow ?_ (by first | omega | (simp; omega) | simp) _ _) | (refine bl_set ?_ (by first | omega | (simp; omega) | simp) _) | (refine bl_alloc ?_ (by first | omega | (simp; omega) | simp) _)⟩

set_option maxRecDepth 100000 in
set_option maxHeartbeats 2000000 in
theorem refValid (A B : Option Addr) (c d : Nat) (s : St) (w : World) (hr : RdD w A s.seen) (hs : RdS w B s.sibs) (hm : s.sibs.length ≤ 4611686018427387904) :
    Calls Try.prog 94 #[.agg #[.slice A s.seen.length c, .slice B s.sibs.length d]] w fun e w' => e = .returned (.bool (svalid s)) ∧ Below w.heap.size w w' := by
  have hB0 := Below.refl w.heap.size w
  by_cases hv : vvalid s.seen = true
  · by_cases hl : s.sibs.length ≤ 64
    · have hl' : decide ((64 : Int) < (s.sibs.length : Int)) = false := decide_eq_false (by omega)
      go_enter Try.func94, Try.ntmps94
      go_wp2_with (go_at_call 188; (refine (refVecValid _ _ _ _ (hr.mono (bl_alloc hB0 (Nat.le_refl _) _))).mono ?_); rintro e w2 ⟨rfl, hb2⟩; have hc0 : w2.cell? ⟨w.heap.size, 0, none⟩ = some (.slice A s.seen.length c) := below_cell hb2 (by go_simp); have hc1 : w2.cell? ⟨w.heap.size, 1, none⟩ = some (.slice B s.sibs.length d) := below_cell hb2 (by go_simp))
      have hB1 : Below w.heap.size w w2 := (hB0.alloc (Nat.le_refl _) _).trans (hb2.mono (by simp))
      go_loopw [3] (fun i W => ∃ p : Nat, i = .int .i64 p ∧ p ≤ s.sibs.length ∧ Hid (∀ i, i < p → sibOk s i) ∧ Below w.heap.size w W ∧ W.cell? ⟨w.heap.size, 0, none⟩ = some (.slice A s.seen.length c) ∧ W.cell? ⟨w.heap.size, 1, none⟩ = some (.slice B s.sibs.length d)) (fun i _ => s.sibs.length - (intOf i).toNat)
      case atStart => exact ⟨0, rfl, Nat.zero_le _, (fun i hi => by omega), hB1, hc0, hc1⟩
      case round =>
        obtain ⟨p, rfl, hp, hok, hB, e0, e1⟩ := hrel
        have hS := hB.size
        have hz : w.heap.size < wr.heap.size := World.block_lt_of_cell? wr _ e0
        have hz1 : w.heap.size < wr.heap.size + 1 := by omega
        by_cases hlt : p < s.sibs.length
        · obtain ⟨b, o, rfl, hb, c1, c2, c3, c4⟩ := (hs.mono hB).at_ hlt
          have hb1 : b < wr.heap.size + 1 := by omega
          by_cases h0 : 0 < p
          · have hlt' : p - 1 < s.sibs.length := by omega
            obtain ⟨b', o', e, hb', d1, d2, d3, d4⟩ := (hs.mono hB).at_ hlt'
            cases e
            have hq1 : (1 : Int) ≤ p := by omega
            have hd0 : decide ((0 : Int) < p) = true := by simp; omega
            by_cases ho : ahead (sibAt s.sibs (p - 1)).d (sibAt s.sibs p).d = true
            · by_cases hcv : vcovers s.seen (sibAt s.sibs p).d = true
              · by_cases h40 : 40 < (sibAt s.sibs p).v.size
                · have hd2 : decide ((40 : Int) < ((sibAt s.sibs p).v.size : Int)) = true := decide_eq_true (by omega)
                  have hno : Hid (svalid s = false) := svalid_no hlt (fun h => by have := h.2.2.1; omega)
                  go_wp2
                  (refine wp_region_quiet_below (by kernel_rfl) (by kernel_rfl) ?_; (repeat (first | go_big_quiet_step (first | exact Calls.regrown_of (refAhead _ _ _) | exact Calls.regrown_of (refCovers _ _ _ _ _ (hr.mono (by repeat first | exact hB | (refine bl_drewN ?_ _) | (refine bl_drew ?_) | (refine bl_grow ?_ (by first | omega | (simp; omega) | simp) _ _) | (refine bl_set ?_ (by first | omega | (simp; omega) | simp) _) | (refine bl_alloc ?_ (by first | omega | (simp; omega) | simp) _))))) | quiet_step (first | exact Calls.regrown_of (refAhead _ _ _) | exact Calls.regrown_of (refCovers _ _ _ _ _ (hr.mono (by repeat first | exact hB | (refine bl_drewN ?_ _) | (refine bl_drew ?_) | (refine bl_grow ?_ (by first | omega | (simp; omega) | simp) _ _) | (refine bl_set ?_ (by first | omega | (simp; omega) | simp) _) | (refine bl_alloc ?_ (by first | omega | (simp; omega) | simp) _))))))); refine wpQuiet_nil ?_; intro _ hw'; obtain ⟨⟨dq, osq⟩, hw''⟩ := hw'; subst hw'')
                  go_wp2
                  go_ret
                  exact ⟨by rw [hno.out]; rfl, by repeat first | exact hB | (refine bl_drewN ?_ _) | (refine bl_drew ?_) | (refine bl_grow ?_ (by first | omega | (simp; omega) | simp) _ _) | (refine bl_set ?_ (by first | omega | (simp; omega) | simp) _) | (refine bl_alloc ?_ (by first | omega | (simp; omega) | simp) _)⟩
                · have hd2 : decide ((40 : Int) < ((sibAt s.sibs p).v.size : Int)) = false := decide_eq_false (by omega)
                  by_cases hg : (sibAt s.sibs p).g = true
                  · by_cases he : (sibAt s.sibs p).v.size = 0
                    · have hse : (sibAt s.sibs p).v.toList.isEmpty = true := by rw [isEmpty_size]; exact decide_eq_true he
                      have HE := Lib.hid he
                      clear he
                      have hok' : Hid (∀ i, i < p + 1 → sibOk s i) := fun i hi => by
                        by_cases e : i < p
                        · exact hok i e
                        · obtain rfl : i = p := by omega
                          exact ⟨fun _ => ho, hcv, by omega, fun _ => HE.out⟩
                      go_wp2
                      (refine wp_region_quiet_below (by kernel_rfl) (by kernel_rfl) ?_; (repeat (first | go_big_quiet_step (first | exact Calls.regrown_of (refAhead _ _ _) | exact Calls.regrown_of (refCovers _ _ _ _ _ (hr.mono (by repeat first | exact hB | (refine bl_drewN ?_ _) | (refine bl_drew ?_) | (refine bl_grow ?_ (by first | omega | (simp; omega) | simp) _ _) | (refine bl_set ?_ (by first | omega | (simp; omega) | simp) _) | (refine bl_alloc ?_ (by first | omega | (simp; omega) | simp) _))))) | quiet_step (first | exact Calls.regrown_of (refAhead _ _ _) | exact Calls.regrown_of (refCovers _ _ _ _ _ (hr.mono (by repeat first | exact hB | (refine bl_drewN ?_ _) | (refine bl_drew ?_) | (refine bl_grow ?_ (by first | omega | (simp; omega) | simp) _ _) | (refine bl_set ?_ (by first | omega | (simp; omega) | simp) _) | (refine bl_alloc ?_ (by first | omega | (simp; omega) | simp) _))))))); refine wpQuiet_nil ?_; intro _ hw'; obtain ⟨⟨dq, osq⟩, hw''⟩ := hw'; subst hw'')
                      have hz2 : w.heap.size < wr.heap.size + 1 := hz1
                      go_wp2
                      go_roundw
                      case rel => exact ⟨p + 1, by go_num, by omega, hok', by repeat first | exact hB | (refine bl_drewN ?_ _) | (refine bl_drew ?_) | (refine bl_grow ?_ (by first | omega | (simp; omega) | simp) _ _) | (refine bl_set ?_ (by first | omega | (simp; omega) | simp) _) | (refine bl_alloc ?_ (by first | omega | (simp; omega) | simp) _), by go_simp, by go_simp⟩
                      case measure => simp [intOf]; omega
                    · have hse : (sibAt s.sibs p).v.toList.isEmpty = false := by rw [isEmpty_size]; exact decide_eq_false he
                      have hno : Hid (svalid s = false) := svalid_no hlt (fun h => he (h.2.2.2 hg))
                      go_wp2
                      (refine wp_region_quiet_below (by kernel_rfl) (by kernel_rfl) ?_; (repeat (first | go_big_quiet_step (first | exact Calls.regrown_of (refAhead _ _ _) | exact Calls.regrown_of (refCovers _ _ _ _ _ (hr.mono (by repeat first | exact hB | (refine bl_drewN ?_ _) | (refine bl_drew ?_) | (refine bl_grow ?_ (by first | omega | (simp; omega) | simp) _ _) | (refine bl_set ?_ (by first | omega | (simp; omega) | simp) _) | (refine bl_alloc ?_ (by first | omega | (simp; omega) | simp) _))))) | quiet_step (first | exact Calls.regrown_of (refAhead _ _ _) | exact Calls.regrown_of (refCovers _ _ _ _ _ (hr.mono (by repeat first | exact hB | (refine bl_drewN ?_ _) | (refine bl_drew ?_) | (refine bl_grow ?_ (by first | omega | (simp; omega) | simp) _ _) | (refine bl_set ?_ (by first | omega | (simp; omega) | simp) _) | (refine bl_alloc ?_ (by first | omega | (simp; omega) | simp) _))))))); refine wpQuiet_nil ?_; intro _ hw'; obtain ⟨⟨dq, osq⟩, hw''⟩ := hw'; subst hw'')
                      go_wp2
                      go_ret
                      exact ⟨by rw [hno.out]; rfl, by repeat first | exact hB | (refine bl_drewN ?_ _) | (refine bl_drew ?_) | (refine bl_grow ?_ (by first | omega | (simp; omega) | simp) _ _) | (refine bl_set ?_ (by first | omega | (simp; omega) | simp) _) | (refine bl_alloc ?_ (by first | omega | (simp; omega) | simp) _)⟩
                  · have hg' : (sibAt s.sibs p).g = false := by simpa using hg
                    have HG := Lib.hid hg
                    clear hg
                    have hok' : Hid (∀ i, i < p + 1 → sibOk s i) := fun i hi => by
                      by_cases e : i < p
                      · exact hok i e
                      · obtain rfl : i = p := by omega
                        exact ⟨fun _ => ho, hcv, by omega, fun h => absurd h HG.out⟩
                    go_wp2
                    (refine wp_region_quiet_below (by kernel_rfl) (by kernel_rfl) ?_; (repeat (first | go_big_quiet_step (first | exact Calls.regrown_of (refAhead _ _ _) | exact Calls.regrown_of (refCovers _ _ _ _ _ (hr.mono (by repeat first | exact hB | (refine bl_drewN ?_ _) | (refine bl_drew ?_) | (refine bl_grow ?_ (by first | omega | (simp; omega) | simp) _ _) | (refine bl_set ?_ (by first | omega | (simp; omega) | simp) _) | (refine bl_alloc ?_ (by first | omega | (simp; omega) | simp) _))))) | quiet_step (first | exact Calls.regrown_of (refAhead _ _ _) | exact Calls.regrown_of (refCovers _ _ _ _ _ (hr.mono (by repeat first | exact hB | (refine bl_drewN ?_ _) | (refine bl_drew ?_) | (refine bl_grow ?_ (by first | omega | (simp; omega) | simp) _ _) | (refine bl_set ?_ (by first | omega | (simp; omega) | simp) _) | (refine bl_alloc ?_ (by first | omega | (simp; omega) | simp) _))))))); refine wpQuiet_nil ?_; intro _ hw'; obtain ⟨⟨dq, osq⟩, hw''⟩ := hw'; subst hw'')
                    have hz2 : w.heap.size < wr.heap.size + 1 := hz1
                    go_wp2
                    go_roundw
                    case rel => exact ⟨p + 1, by go_num, by omega, hok', by repeat first | exact hB | (refine bl_drewN ?_ _) | (refine bl_drew ?_) | (refine bl_grow ?_ (by first | omega | (simp; omega) | simp) _ _) | (refine bl_set ?_ (by first | omega | (simp; omega) | simp) _) | (refine bl_alloc ?_ (by first | omega | (simp; omega) | simp) _), by go_simp, by go_simp⟩
                    case measure => simp [intOf]; omega
              · have hcv' : vcovers s.seen (sibAt s.sibs p).d = false := by simpa using hcv
                have HC := Lib.hid hcv
                clear hcv
                have hno : Hid (svalid s = false) := svalid_no hlt (fun h => HC.out h.2.1)
                go_wp2
                (refine wp_region_quiet_below (by kernel_rfl) (by kernel_rfl) ?_; (repeat (first | go_big_quiet_step (first | exact Calls.regrown_of (refAhead _ _ _) | exact Calls.regrown_of (refCovers _ _ _ _ _ (hr.mono (by repeat first | exact hB | (refine bl_drewN ?_ _) | (refine bl_drew ?_) | (refine bl_grow ?_ (by first | omega | (simp; omega) | simp) _ _) | (refine bl_set ?_ (by first | omega | (simp; omega) | simp) _) | (refine bl_alloc ?_ (by first | omega | (simp; omega) | simp) _))))) | quiet_step (first | exact Calls.regrown_of (refAhead _ _ _) | exact Calls.regrown_of (refCovers _ _ _ _ _ (hr.mono (by repeat first | exact hB | (refine bl_drewN ?_ _) | (refine bl_drew ?_) | (refine bl_grow ?_ (by first | omega | (simp; omega) | simp) _ _) | (refine bl_set ?_ (by first | omega | (simp; omega) | simp) _) | (refine bl_alloc ?_ (by first | omega | (simp; omega) | simp) _))))))); refine wpQuiet_nil ?_; intro _ hw'; obtain ⟨⟨dq, osq⟩, hw''⟩ := hw'; subst hw'')
                go_wp2
                go_ret
                exact ⟨by rw [hno.out]; rfl, by repeat first | exact hB | (refine bl_drewN ?_ _) | (refine bl_drew ?_) | (refine bl_grow ?_ (by first | omega | (simp; omega) | simp) _ _) | (refine bl_set ?_ (by first | omega | (simp; omega) | simp) _) | (refine bl_alloc ?_ (by first | omega | (simp; omega) | simp) _)⟩
            · have ho' : ahead (sibAt s.sibs (p - 1)).d (sibAt s.sibs p).d = false := by simpa using ho
              have HO := Lib.hid ho
              clear ho
              have hno : Hid (svalid s = false) := svalid_no hlt (fun h => HO.out (h.1 h0))
              go_wp2
              (refine wp_region_quiet_below (by kernel_rfl) (by kernel_rfl) ?_; (repeat (first | go_big_quiet_step (first | exact Calls.regrown_of (refAhead _ _ _) | exact Calls.regrown_of (refCovers _ _ _ _ _ (hr.mono (by repeat first | exact hB | (refine bl_drewN ?_ _) | (refine bl_drew ?_) | (refine bl_grow ?_ (by first | omega | (simp; omega) | simp) _ _) | (refine bl_set ?_ (by first | omega | (simp; omega) | simp) _) | (refine bl_alloc ?_ (by first | omega | (simp; omega) | simp) _))))) | quiet_step (first | exact Calls.regrown_of (refAhead _ _ _) | exact Calls.regrown_of (refCovers _ _ _ _ _ (hr.mono (by repeat first | exact hB | (refine bl_drewN ?_ _) | (refine bl_drew ?_) | (refine bl_grow ?_ (by first | omega | (simp; omega) | simp) _ _) | (refine bl_set ?_ (by first | omega | (simp; omega) | simp) _) | (refine bl_alloc ?_ (by first | omega | (simp; omega) | simp) _))))))); refine wpQuiet_nil ?_; intro _ hw'; obtain ⟨⟨dq, osq⟩, hw''⟩ := hw'; subst hw'')
              go_wp2
              go_ret
              exact ⟨by rw [hno.out]; rfl, by repeat first | exact hB | (refine bl_drewN ?_ _) | (refine bl_drew ?_) | (refine bl_grow ?_ (by first | omega | (simp; omega) | simp) _ _) | (refine bl_set ?_ (by first | omega | (simp; omega) | simp) _) | (refine bl_alloc ?_ (by first | omega | (simp; omega) | simp) _)⟩
          · have hd0 : decide ((0 : Int) < p) = false := by simp; omega
            by_cases hcv : vcovers s.seen (sibAt s.sibs p).d = true
            · by_cases h40 : 40 < (sibAt s.sibs p).v.size
              · have hd2 : decide ((40 : Int) < ((sibAt s.sibs p).v.size : Int)) = true := decide_eq_true (by omega)
                have hno : Hid (svalid s = false) := svalid_no hlt (fun h => by have := h.2.2.1; omega)
                go_wp2
                (refine wp_region_quiet_below (by kernel_rfl) (by kernel_rfl) ?_; (repeat (first | go_big_quiet_step (first | exact Calls.regrown_of (refAhead _ _ _) | exact Calls.regrown_of (refCovers _ _ _ _ _ (hr.mono (by repeat first | exact hB | (refine bl_drewN ?_ _) | (refine bl_drew ?_) | (refine bl_grow ?_ (by first | omega | (simp; omega) | simp) _ _) | (refine bl_set ?_ (by first | omega | (simp; omega) | simp) _) | (refine bl_alloc ?_ (by first | omega | (simp; omega) | simp) _))))) | quiet_step (first | exact Calls.regrown_of (refAhead _ _ _) | exact Calls.regrown_of (refCovers _ _ _ _ _ (hr.mono (by repeat first | exact hB | (refine bl_drewN ?_ _) | (refine bl_drew ?_) | (refine bl_grow ?_ (by first | omega | (simp; omega) | simp) _ _) | (refine bl_set ?_ (by first | omega | (simp; omega) | simp) _) | (refine bl_alloc ?_ (by first | omega | (simp; omega) | simp) _))))))); refine wpQuiet_nil ?_; intro _ hw'; obtain ⟨⟨dq, osq⟩, hw''⟩ := hw'; subst hw'')
                go_wp2
                go_ret
                exact ⟨by rw [hno.out]; rfl, by repeat first | exact hB | (refine bl_drewN ?_ _) | (refine bl_drew ?_) | (refine bl_grow ?_ (by first | omega | (simp; omega) | simp) _ _) | (refine bl_set ?_ (by first | omega | (simp; omega) | simp) _) | (refine bl_alloc ?_ (by first | omega | (simp; omega) | simp) _)⟩
              · have hd2 : decide ((40 : Int) < ((sibAt s.sibs p).v.size : Int)) = false := decide_eq_false (by omega)
                by_cases hg : (sibAt s.sibs p).g = true
                · by_cases he : (sibAt s.sibs p).v.size = 0
                  · have hse : (sibAt s.sibs p).v.toList.isEmpty = true := by rw [isEmpty_size]; exact decide_eq_true he
                    have HE := Lib.hid he
                    clear he
                    have hok' : Hid (∀ i, i < p + 1 → sibOk s i) := fun i hi => by
                      by_cases e : i < p
                      · exact hok i e
                      · obtain rfl : i = p := by omega
                        exact ⟨fun h => absurd h h0, hcv, by omega, fun _ => HE.out⟩
                    go_wp2
                    (refine wp_region_quiet_below (by kernel_rfl) (by kernel_rfl) ?_; (repeat (first | go_big_quiet_step (first | exact Calls.regrown_of (refAhead _ _ _) | exact Calls.regrown_of (refCovers _ _ _ _ _ (hr.mono (by repeat first | exact hB | (refine bl_drewN ?_ _) | (refine bl_drew ?_) | (refine bl_grow ?_ (by first | omega | (simp; omega) | simp) _ _) | (refine bl_set ?_ (by first | omega | (simp; omega) | simp) _) | (refine bl_alloc ?_ (by first | omega | (simp; omega) | simp) _))))) | quiet_step (first | exact Calls.regrown_of (refAhead _ _ _) | exact Calls.regrown_of (refCovers _ _ _ _ _ (hr.mono (by repeat first | exact hB | (refine bl_drewN ?_ _) | (refine bl_drew ?_) | (refine bl_grow ?_ (by first | omega | (simp; omega) | simp) _ _) | (refine bl_set ?_ (by first | omega | (simp; omega) | simp) _) | (refine bl_alloc ?_ (by first | omega | (simp; omega) | simp) _))))))); refine wpQuiet_nil ?_; intro _ hw'; obtain ⟨⟨dq, osq⟩, hw''⟩ := hw'; subst hw'')
                    have hz2 : w.heap.size < wr.heap.size + 1 := hz1
                    go_wp2
                    go_roundw
                    case rel => exact ⟨p + 1, by go_num, by omega, hok', by repeat first | exact hB | (refine bl_drewN ?_ _) | (refine bl_drew ?_) | (refine bl_grow ?_ (by first | omega | (simp; omega) | simp) _ _) | (refine bl_set ?_ (by first | omega | (simp; omega) | simp) _) | (refine bl_alloc ?_ (by first | omega | (simp; omega) | simp) _), by go_simp, by go_simp⟩
                    case measure => simp [intOf]; omega
                  · have hse : (sibAt s.sibs p).v.toList.isEmpty = false := by rw [isEmpty_size]; exact decide_eq_false he
                    have hno : Hid (svalid s = false) := svalid_no hlt (fun h => he (h.2.2.2 hg))
                    go_wp2
                    (refine wp_region_quiet_below (by kernel_rfl) (by kernel_rfl) ?_; (repeat (first | go_big_quiet_step (first | exact Calls.regrown_of (refAhead _ _ _) | exact Calls.regrown_of (refCovers _ _ _ _ _ (hr.mono (by repeat first | exact hB | (refine bl_drewN ?_ _) | (refine bl_drew ?_) | (refine bl_grow ?_ (by first | omega | (simp; omega) | simp) _ _) | (refine bl_set ?_ (by first | omega | (simp; omega) | simp) _) | (refine bl_alloc ?_ (by first | omega | (simp; omega) | simp) _))))) | quiet_step (first | exact Calls.regrown_of (refAhead _ _ _) | exact Calls.regrown_of (refCovers _ _ _ _ _ (hr.mono (by repeat first | exact hB | (refine bl_drewN ?_ _) | (refine bl_drew ?_) | (refine bl_grow ?_ (by first | omega | (simp; omega) | simp) _ _) | (refine bl_set ?_ (by first | omega | (simp; omega) | simp) _) | (refine bl_alloc ?_ (by first | omega | (simp; omega) | simp) _))))))); refine wpQuiet_nil ?_; intro _ hw'; obtain ⟨⟨dq, osq⟩, hw''⟩ := hw'; subst hw'')
                    go_wp2
                    go_ret
                    exact ⟨by rw [hno.out]; rfl, by repeat first | exact hB | (refine bl_drewN ?_ _) | (refine bl_drew ?_) | (refine bl_grow ?_ (by first | omega | (simp; omega) | simp) _ _) | (refine bl_set ?_ (by first | omega | (simp; omega) | simp) _) | (refine bl_alloc ?_ (by first | omega | (simp; omega) | simp) _)⟩
                · have hg' : (sibAt s.sibs p).g = false := by simpa using hg
                  have HG := Lib.hid hg
                  clear hg
                  have hok' : Hid (∀ i, i < p + 1 → sibOk s i) := fun i hi => by
                    by_cases e : i < p
                    · exact hok i e
                    · obtain rfl : i = p := by omega
                      exact ⟨fun h => absurd h h0, hcv, by omega, fun h => absurd h HG.out⟩
                  go_wp2
                  (refine wp_region_quiet_below (by kernel_rfl) (by kernel_rfl) ?_; (repeat (first | go_big_quiet_step (first | exact Calls.regrown_of (refAhead _ _ _) | exact Calls.regrown_of (refCovers _ _ _ _ _ (hr.mono (by repeat first | exact hB | (refine bl_drewN ?_ _) | (refine bl_drew ?_) | (refine bl_grow ?_ (by first | omega | (simp; omega) | simp) _ _) | (refine bl_set ?_ (by first | omega | (simp; omega) | simp) _) | (refine bl_alloc ?_ (by first | omega | (simp; omega) | simp) _))))) | quiet_step (first | exact Calls.regrown_of (refAhead _ _ _) | exact Calls.regrown_of (refCovers _ _ _ _ _ (hr.mono (by repeat first | exact hB | (refine bl_drewN ?_ _) | (refine bl_drew ?_) | (refine bl_grow ?_ (by first | omega | (simp; omega) | simp) _ _) | (refine bl_set ?_ (by first | omega | (simp; omega) | simp) _) | (refine bl_alloc ?_ (by first | omega | (simp; omega) | simp) _))))))); refine wpQuiet_nil ?_; intro _ hw'; obtain ⟨⟨dq, osq⟩, hw''⟩ := hw'; subst hw'')
                  have hz2 : w.heap.size < wr.heap.size + 1 := hz1
                  go_wp2
                  go_roundw
                  case rel => exact ⟨p + 1, by go_num, by omega, hok', by repeat first | exact hB | (refine bl_drewN ?_ _) | (refine bl_drew ?_) | (refine bl_grow ?_ (by first | omega | (simp; omega) | simp) _ _) | (refine bl_set ?_ (by first | omega | (simp; omega) | simp) _) | (refine bl_alloc ?_ (by first | omega | (simp; omega) | simp) _), by go_simp, by go_simp⟩
                  case measure => simp [intOf]; omega
            · have hcv' : vcovers s.seen (sibAt s.sibs p).d = false := by simpa using hcv
              have HC := Lib.hid hcv
              clear hcv
              have hno : Hid (svalid s = false) := svalid_no hlt (fun h => HC.out h.2.1)
              go_wp2
              (refine wp_region_quiet_below (by kernel_rfl) (by kernel_rfl) ?_; (repeat (first | go_big_quiet_step (first | exact Calls.regrown_of (refAhead _ _ _) | exact Calls.regrown_of (refCovers _ _ _ _ _ (hr.mono (by repeat first | exact hB | (refine bl_drewN ?_ _) | (refine bl_drew ?_) | (refine bl_grow ?_ (by first | omega | (simp; omega) | simp) _ _) | (refine bl_set ?_ (by first | omega | (simp; omega) | simp) _) | (refine bl_alloc ?_ (by first | omega | (simp; omega) | simp) _))))) | quiet_step (first | exact Calls.regrown_of (refAhead _ _ _) | exact Calls.regrown_of (refCovers _ _ _ _ _ (hr.mono (by repeat first | exact hB | (refine bl_drewN ?_ _) | (refine bl_drew ?_) | (refine bl_grow ?_ (by first | omega | (simp; omega) | simp) _ _) | (refine bl_set ?_ (by first | omega | (simp; omega) | simp) _) | (refine bl_alloc ?_ (by first | omega | (simp; omega) | simp) _))))))); refine wpQuiet_nil ?_; intro _ hw'; obtain ⟨⟨dq, osq⟩, hw''⟩ := hw'; subst hw'')
              go_wp2
              go_ret
              exact ⟨by rw [hno.out]; rfl, by repeat first | exact hB | (refine bl_drewN ?_ _) | (refine bl_drew ?_) | (refine bl_grow ?_ (by first | omega | (simp; omega) | simp) _ _) | (refine bl_set ?_ (by first | omega | (simp; omega) | simp) _) | (refine bl_alloc ?_ (by first | omega | (simp; omega) | simp) _)⟩
        · have hfin : Hid (svalid s = true) := svalid_yes hv hl (fun i hi => hok i (by omega))
          obtain rfl : p = s.sibs.length := by omega
          go_wp2
          go_ret
          exact ⟨by rw [hfin.out]; rfl, hB⟩
    · have hno : Hid (svalid s = false) := by unfold Hid svalid; rw [decide_eq_false_iff_not]; exact fun h => hl h.2.1
      have hl' : decide ((64 : Int) < (s.sibs.length : Int)) = true := decide_eq_true (by omega)
      go_enter Try.func94, Try.ntmps94
      go_wp2_with (go_at_call 188; (refine (refVecValid _ _ _ _ (hr.mono (bl_alloc hB0 (Nat.le_refl _) _))).mono ?_); rintro e w2 ⟨rfl, hb2⟩; have hc0 : w2.cell? ⟨w.heap.size, 0, none⟩ = some (.slice A s.seen.length c) := below_cell hb2 (by go_simp); have hc1 : w2.cell? ⟨w.heap.size, 1, none⟩ = some (.slice B s.sibs.length d) := below_cell hb2 (by go_simp))
      go_ret
      exact ⟨by rw [hno.out]; rfl, (hB0.alloc (Nat.le_refl _) _).trans (hb2.mono (by simp))⟩
  · have hno : Hid (svalid s = false) := by unfold Hid svalid; rw [decide_eq_false_iff_not]; exact fun h => hv h.1
    have hv' : vvalid s.seen = false := by simpa using hv
    clear hv
    go_enter Try.func94, Try.ntmps94
    go_wp2_with (go_at_call 188; (refine (refVecValid _ _ _ _ (hr.mono (bl_alloc hB0 (Nat.le_refl _) _))).mono ?_); rintro e w2 ⟨rfl, hb2⟩)
    go_ret
    exact ⟨by rw [hno.out]; rfl, (hB0.alloc (Nat.le_refl _) _).trans (hb2.mono (by simp))⟩
end Go.Proofs.Ytfdiedcleggfnaa
