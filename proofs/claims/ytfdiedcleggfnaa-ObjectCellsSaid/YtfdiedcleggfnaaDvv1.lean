/- Siblings and states; the order of dots; whether a state may be: the dvv package and its reference. -/
import Derived.Test.YtfdiedcleggfnaaVec2
import Derived.Test.YtfdiedcleggfnaaRegion
namespace Go.Proofs.Ytfdiedcleggfnaa
open Go.RowKit Go.Sort

structure Sib where
  d : Dot
  g : Bool
  v : ByteArray
  deriving DecidableEq
instance : Inhabited Sib := ⟨⟨default, false, ⟨#[]⟩⟩⟩
def sibV (s : Sib) : List Value := [.int .u32 s.d.a, .int .u64 s.d.c, .bool s.g, .string s.v]
def sibAt (xs : List Sib) (k : Nat) : Sib := xs.getD k default
def sibWf (s : Sib) : Prop := dotWf s.d ∧ s.v.size ≤ 140737488351232
/-- The siblings that a slice reads as. -/
def RdS (w : World) (A : Option Addr) (xs : List Sib) : Prop := Rd w A 4 (xs.map sibV) ∧ ∀ s ∈ xs, sibWf s
theorem sibAt_mem {xs : List Sib} {k : Nat} (hk : k < xs.length) : sibAt xs k ∈ xs := by
  unfold sibAt; rw [List.getD_eq_getElem?_getD, List.getElem?_eq_getElem hk]; exact List.getElem_mem hk
theorem RdS.at_ {w : World} {A : Option Addr} {xs : List Sib} (h : RdS w A xs) {k : Nat} (hk : k < xs.length) :
    ∃ b o, A = some ⟨b, o, none⟩ ∧ b < w.heap.size ∧ w.cell? ⟨b, o + k * 4, none⟩ = some (.int .u32 (sibAt xs k).d.a) ∧ w.cell? ⟨b, o + k * 4 + 1, none⟩ = some (.int .u64 (sibAt xs k).d.c) ∧
      w.cell? ⟨b, o + k * 4 + 2, none⟩ = some (.bool (sibAt xs k).g) ∧ w.cell? ⟨b, o + k * 4 + 3, none⟩ = some (.string (sibAt xs k).v) := by
  obtain ⟨b, o, e, hl, hc⟩ := h.1 k (by simpa using hk)
  rw [getD_map sibV default xs k hk] at hc
  exact ⟨b, o, e, hl, hc 0 _ rfl, hc 1 _ rfl, hc 2 _ rfl, hc 3 _ rfl⟩
theorem RdS.wf {w : World} {A : Option Addr} {xs : List Sib} (h : RdS w A xs) {k : Nat} (hk : k < xs.length) : sibWf (sibAt xs k) := h.2 _ (sibAt_mem hk)
theorem RdS.mono {w w' : World} {A : Option Addr} {xs : List Sib} (h : RdS w A xs) (hb : Below w.heap.size w w') : RdS w' A xs := ⟨h.1.mono hb, h.2⟩
theorem RdS.kp {w w' : World} {P : Nat → Prop} {A : Option Addr} {xs : List Sib} (h : RdS w A xs) (hb : Kp P w w') (hp : ∀ a, A = some a → ¬ P a.block) : RdS w' A xs := ⟨h.1.kp hb hp, h.2⟩

/-- How two dots stand. -/
def ordI (x y : Dot) : Int := if cmpI x.a y.a = 0 then cmpI x.c y.c else cmpI x.a y.a
def ahead (x y : Dot) : Bool := decide (x.a < y.a ∨ x.a = y.a ∧ x.c < y.c)
theorem ahead_iff {x y : Dot} : ahead x y = true ↔ ordI x y < 0 := by
  unfold ahead ordI; rw [decide_eq_true_iff]
  split
  · rename_i h; rw [cmpI_eq] at h; rw [cmpI_lt]; omega
  · rename_i h; rw [cmpI_eq] at h; rw [cmpI_lt]; omega

theorem compare64 (a b : Int) (w : World) : Calls Try.prog 252 #[.int .u64 a, .int .u64 b] w fun e w' => e = .returned (.int .i64 (cmpI a b)) ∧ w = w' := by
  by_cases h1 : a < b
  · have e : cmpI a b = -1 := by simp [cmpI, h1]
    rw [e]; clear e
    go_enter Try.func252, Try.ntmps252
    go_wp2
    go_ret
    exact ⟨rfl, rfl⟩
  · by_cases h2 : b < a
    · have e : cmpI a b = 1 := by simp [cmpI, h1, h2]
      rw [e]; clear e
      go_enter Try.func252, Try.ntmps252
      go_wp2
      go_ret
      exact ⟨rfl, rfl⟩
    · have e : cmpI a b = 0 := by simp [cmpI, h1, h2]
      rw [e]; clear e
      go_enter Try.func252, Try.ntmps252
      go_wp2
      go_ret
      exact ⟨rfl, rfl⟩

def orI (x y : Int) : Int := if x = 0 then y else x
set_option maxRecDepth 100000 in
set_option maxHeartbeats 2000000 in
theorem cmpOr2 (b c : Nat) (x y : Int) (w : World) (hx : w.cell? ⟨b, 0, none⟩ = some (.int .i64 x)) (hy : w.cell? ⟨b, 1, none⟩ = some (.int .i64 y)) :
    Calls Try.prog 250 #[.slice (some ⟨b, 0, none⟩) 2 c] w fun e w' => e = .returned (.int .i64 (orI x y)) ∧ w = w' := by
  go_enter Try.func250, Try.ntmps250
  go_wp2
  go_loop [8] (fun i => i = .int .i64 0 ∨ (i = .int .i64 1 ∧ Hid (x = 0)) ∨ (i = .int .i64 2 ∧ Hid (x = 0) ∧ Hid (y = 0))) (fun i => 2 - (intOf i).toNat)
  case atStart => exact .inl rfl
  case round =>
    rcases hrel with rfl | ⟨rfl, h0⟩ | ⟨rfl, h0, h0'⟩
    · by_cases h : x = 0
      · have hd : (x != 0) = false := by simpa using h
        have H : Hid (x = 0) := h
        clear h
        go_wp2
        go_round
        case rel => exact .inr (.inl ⟨rfl, H⟩)
        case measure => simp [intOf]
      · have hd : (x != 0) = true := by simpa using h
        have H : Hid (orI x y = x) := if_neg h
        clear h
        go_wp2
        go_ret
        exact ⟨by rw [H.out]; rfl, rfl⟩
    · by_cases h : y = 0
      · have hd : (y != 0) = false := by simpa using h
        have H : Hid (y = 0) := h
        clear h
        go_wp2
        go_round
        case rel => exact .inr (.inr ⟨rfl, h0, H⟩)
        case measure => simp [intOf]
      · have hd : (y != 0) = true := by simpa using h
        have H : Hid (orI x y = y) := if_pos h0
        clear h
        go_wp2
        go_ret
        exact ⟨by rw [H.out]; rfl, rfl⟩
    · have H : Hid (orI x y = 0) := (if_pos h0).trans h0'
      go_wp2
      go_ret
      exact ⟨by rw [H.out]; rfl, rfl⟩

set_option maxRecDepth 100000 in
set_option maxHeartbeats 2000000 in
theorem dvvOrder (x y : Dot) (w : World) :
    Calls Try.prog 192 #[.agg #[.int .u32 x.a, .int .u64 x.c], .agg #[.int .u32 y.a, .int .u64 y.c]] w fun e w' => e = .returned (.int .i64 (ordI x y)) ∧ Below w.heap.size w w' := by
  have hB := Below.refl w.heap.size w
  go_enter Try.func192, Try.ntmps192
  go_wp2
  (refine wp_region_drew_tail 10 (by kernel_rfl) (by kernel_rfl) ?_; simp only [List.take_succ_cons, List.take_zero, List.drop_succ_cons, List.drop_zero]; (repeat (first | go_big_quiet_step (first | (go_at_call 251; exact Calls.quiet_of_same ((compare32 _ _ _).mono (fun _ _ h => ⟨h.1, h.2.symm⟩))) | (go_at_call 252; exact Calls.quiet_of_same ((compare64 _ _ _).mono (fun _ _ h => ⟨h.1, h.2.symm⟩)))) | quiet_step (first | (go_at_call 251; exact Calls.quiet_of_same ((compare32 _ _ _).mono (fun _ _ h => ⟨h.1, h.2.symm⟩))) | (go_at_call 252; exact Calls.quiet_of_same ((compare64 _ _ _).mono (fun _ _ h => ⟨h.1, h.2.symm⟩)))))); refine wpQuiet_nil ?_; intro _ hw'; obtain ⟨nq, hw''⟩ := hw'; subst hw'')
  go_wp2_with (go_at_call 250; refine (cmpOr2 _ _ (cmpI x.a y.a) (cmpI x.c y.c) _ ?c1 ?c2).mono ?_; (case c1 => go_simp); (case c2 => go_simp); rintro e w' ⟨rfl, rfl⟩)
  go_ret
  exact ⟨rfl, by repeat first | exact hB | (refine bl_drewN ?_ _) | (refine bl_drew ?_) | (refine bl_grow ?_ (by first | omega | (simp; omega) | simp) _ _) | (refine bl_set ?_ (by first | omega | (simp; omega) | simp) _) | (refine bl_alloc ?_ (by first | omega | (simp; omega) | simp) _)⟩

/-- A state. -/
structure St where
  seen : List Dot
  sibs : List Sib
instance : Inhabited St := ⟨⟨[], []⟩⟩
def sibOk (s : St) (i : Nat) : Prop :=
  (0 < i → ahead (sibAt s.sibs (i - 1)).d (sibAt s.sibs i).d = true) ∧ vcovers s.seen (sibAt s.sibs i).d = true ∧ (sibAt s.sibs i).v.size ≤ 40 ∧ ((sibAt s.sibs i).g = true → (sibAt s.sibs i).v.size = 0)
instance (s : St) (i : Nat) : Decidable (sibOk s i) := by unfold sibOk; infer_instance
/-- May this be a state? -/
def svalid (s : St) : Bool := decide (vvalid s.seen = true ∧ s.sibs.length ≤ 64 ∧ ∀ i, i < s.sibs.length → sibOk s i)
theorem svalid_no {s : St} {i : Nat} (hi : i < s.sibs.length) (h : ¬ sibOk s i) : svalid s = false := by
  unfold svalid; rw [decide_eq_false_iff_not]; exact fun ⟨_, _, h2⟩ => h (h2 i hi)
theorem svalid_yes {s : St} (h1 : vvalid s.seen = true) (h2 : s.sibs.length ≤ 64) (h : ∀ i, i < s.sibs.length → sibOk s i) : svalid s = true := decide_eq_true ⟨h1, h2, h⟩

attribute [local go_sem] grow_cell

theorem isEmpty_size (s : ByteArray) : s.toList.isEmpty = decide (s.size = 0) := by
  rw [ByteArray.toList_eq]
  rcases s with ⟨⟨l⟩⟩
  cases l <;> simp [ByteArray.size]

set_option maxRecDepth 100000 in
set_option maxHeartbeats 2000000 in
theorem dvvValid (A B : Option Addr) (c d : Nat) (s : St) (w : World) (hr : RdD w A s.seen) (hs : RdS w B s.sibs) (hn : s.seen.length ≤ 4611686018427387904) (hm : s.sibs.length ≤ 4611686018427387904) :
    Calls Try.prog 98 #[.agg #[.slice A s.seen.length c, .slice B s.sibs.length d]] w fun e w' => e = .returned (.bool (svalid s)) ∧ Below w.heap.size w w' := by
  have hB0 := Below.refl w.heap.size w
  by_cases hv : vvalid s.seen = true
  · by_cases hl : s.sibs.length ≤ 64
    · go_enter Try.func98, Try.ntmps98
      go_wp2_with (go_at_call 191; (refine (vectorValid _ _ _ _ (hr.mono (bl_alloc hB0 (Nat.le_refl _) _)) hn).mono ?_); rintro e w2 ⟨rfl, hb2⟩; have hc0 : w2.cell? ⟨w.heap.size, 0, none⟩ = some (.slice A s.seen.length c) := below_cell hb2 (by go_simp); have hc1 : w2.cell? ⟨w.heap.size, 1, none⟩ = some (.slice B s.sibs.length d) := below_cell hb2 (by go_simp))
      have hB1 : Below w.heap.size w w2 := (hB0.alloc (Nat.le_refl _) _).trans (hb2.mono (by simp))
      go_loopw [18] (fun i W => ∃ p : Nat, i = .int .i64 p ∧ p ≤ s.sibs.length ∧ Hid (∀ i, i < p → sibOk s i) ∧ Below w.heap.size w W ∧ W.cell? ⟨w.heap.size, 0, none⟩ = some (.slice A s.seen.length c) ∧ W.cell? ⟨w.heap.size, 1, none⟩ = some (.slice B s.sibs.length d)) (fun i _ => s.sibs.length - (intOf i).toNat)
      case atStart => exact ⟨0, rfl, Nat.zero_le _, (fun i hi => by omega), hB1, hc0, hc1⟩
      case round =>
        obtain ⟨p, rfl, hp, hok, hB, e0, e1⟩ := hrel
        have hS := hB.size
        have hz : w.heap.size < wr.heap.size := World.block_lt_of_cell? wr _ e0
        have hz1 : w.heap.size < wr.heap.size + 1 := by omega
        by_cases hlt : p < s.sibs.length
        · obtain ⟨b, o, rfl, hb, c1, c2, c3, c4⟩ := (hs.mono hB).at_ hlt
          have hb1 : b < wr.heap.size + 1 := by omega
          by_cases h0 : 0 < p
          · have hlt' : p - 1 < s.sibs.length := by omega
            obtain ⟨b', o', e, hb', d1, d2, d3, d4⟩ := (hs.mono hB).at_ hlt'
            cases e
            have hq1 : (1 : Int) ≤ p := by omega
            have hd0 : decide ((0 : Int) < p) = true := by simp; omega
            by_cases ho : 0 ≤ ordI (sibAt s.sibs (p - 1)).d (sibAt s.sibs p).d
            · have hd1 : decide (0 ≤ ordI (sibAt s.sibs (p - 1)).d (sibAt s.sibs p).d) = true := decide_eq_true ho
              have hno : Hid (svalid s = false) := svalid_no hlt (fun h => by have := ahead_iff.1 (h.1 h0); omega)
              go_wp2
              (refine wp_region_quiet_below (by kernel_rfl) (by kernel_rfl) ?_; (repeat (first | go_big_quiet_step (first | exact Calls.regrown_of (dvvOrder _ _ _) | exact Calls.regrown_of (vectorCovers _ _ _ _ _ (hr.mono (by repeat first | exact hB | (refine bl_drewN ?_ _) | (refine bl_drew ?_) | (refine bl_grow ?_ (by first | omega | (simp; omega) | simp) _ _) | (refine bl_set ?_ (by first | omega | (simp; omega) | simp) _) | (refine bl_alloc ?_ (by first | omega | (simp; omega) | simp) _))) hn)) | quiet_step (first | exact Calls.regrown_of (dvvOrder _ _ _) | exact Calls.regrown_of (vectorCovers _ _ _ _ _ (hr.mono (by repeat first | exact hB | (refine bl_drewN ?_ _) | (refine bl_drew ?_) | (refine bl_grow ?_ (by first | omega | (simp; omega) | simp) _ _) | (refine bl_set ?_ (by first | omega | (simp; omega) | simp) _) | (refine bl_alloc ?_ (by first | omega | (simp; omega) | simp) _))) hn)))); refine wpQuiet_nil ?_; intro _ hw'; obtain ⟨⟨dq, osq⟩, hw''⟩ := hw'; subst hw'')
              go_wp2
              go_ret
              exact ⟨by rw [hno.out]; rfl, by repeat first | exact hB | (refine bl_drewN ?_ _) | (refine bl_drew ?_) | (refine bl_grow ?_ (by first | omega | (simp; omega) | simp) _ _) | (refine bl_set ?_ (by first | omega | (simp; omega) | simp) _) | (refine bl_alloc ?_ (by first | omega | (simp; omega) | simp) _)⟩
            · have hd1 : decide (0 ≤ ordI (sibAt s.sibs (p - 1)).d (sibAt s.sibs p).d) = false := decide_eq_false ho
              by_cases hcv : vcovers s.seen (sibAt s.sibs p).d = true
              · by_cases h40 : 40 < (sibAt s.sibs p).v.size
                · have hd2 : decide ((40 : Int) < ((sibAt s.sibs p).v.size : Int)) = true := decide_eq_true (by omega)
                  have hno : Hid (svalid s = false) := svalid_no hlt (fun h => by have := h.2.2.1; omega)
                  go_wp2
                  (refine wp_region_quiet_below (by kernel_rfl) (by kernel_rfl) ?_; (repeat (first | go_big_quiet_step (first | exact Calls.regrown_of (dvvOrder _ _ _) | exact Calls.regrown_of (vectorCovers _ _ _ _ _ (hr.mono (by repeat first | exact hB | (refine bl_drewN ?_ _) | (refine bl_drew ?_) | (refine bl_grow ?_ (by first | omega | (simp; omega) | simp) _ _) | (refine bl_set ?_ (by first | omega | (simp; omega) | simp) _) | (refine bl_alloc ?_ (by first | omega | (simp; omega) | simp) _))) hn)) | quiet_step (first | exact Calls.regrown_of (dvvOrder _ _ _) | exact Calls.regrown_of (vectorCovers _ _ _ _ _ (hr.mono (by repeat first | exact hB | (refine bl_drewN ?_ _) | (refine bl_drew ?_) | (refine bl_grow ?_ (by first | omega | (simp; omega) | simp) _ _) | (refine bl_set ?_ (by first | omega | (simp; omega) | simp) _) | (refine bl_alloc ?_ (by first | omega | (simp; omega) | simp) _))) hn)))); refine wpQuiet_nil ?_; intro _ hw'; obtain ⟨⟨dq, osq⟩, hw''⟩ := hw'; subst hw'')
                  go_wp2
                  go_ret
                  exact ⟨by rw [hno.out]; rfl, by repeat first | exact hB | (refine bl_drewN ?_ _) | (refine bl_drew ?_) | (refine bl_grow ?_ (by first | omega | (simp; omega) | simp) _ _) | (refine bl_set ?_ (by first | omega | (simp; omega) | simp) _) | (refine bl_alloc ?_ (by first | omega | (simp; omega) | simp) _)⟩
                · have hd2 : decide ((40 : Int) < ((sibAt s.sibs p).v.size : Int)) = false := decide_eq_false (by omega)
                  by_cases hg : (sibAt s.sibs p).g = true
                  · by_cases he : (sibAt s.sibs p).v.size = 0
                    · have hse : (sibAt s.sibs p).v.toList.isEmpty = true := by rw [isEmpty_size]; exact decide_eq_true he
                      have HE := Lib.hid he
                      clear he
                      have hok' : Hid (∀ i, i < p + 1 → sibOk s i) := fun i hi => by
                        by_cases e : i < p
                        · exact hok i e
                        · obtain rfl : i = p := by omega
                          exact ⟨fun _ => ahead_iff.2 (by omega), hcv, by omega, fun _ => HE.out⟩
                      go_wp2
                      (refine wp_region_quiet_below (by kernel_rfl) (by kernel_rfl) ?_; (repeat (first | go_big_quiet_step (first | exact Calls.regrown_of (dvvOrder _ _ _) | exact Calls.regrown_of (vectorCovers _ _ _ _ _ (hr.mono (by repeat first | exact hB | (refine bl_drewN ?_ _) | (refine bl_drew ?_) | (refine bl_grow ?_ (by first | omega | (simp; omega) | simp) _ _) | (refine bl_set ?_ (by first | omega | (simp; omega) | simp) _) | (refine bl_alloc ?_ (by first | omega | (simp; omega) | simp) _))) hn)) | quiet_step (first | exact Calls.regrown_of (dvvOrder _ _ _) | exact Calls.regrown_of (vectorCovers _ _ _ _ _ (hr.mono (by repeat first | exact hB | (refine bl_drewN ?_ _) | (refine bl_drew ?_) | (refine bl_grow ?_ (by first | omega | (simp; omega) | simp) _ _) | (refine bl_set ?_ (by first | omega | (simp; omega) | simp) _) | (refine bl_alloc ?_ (by first | omega | (simp; omega) | simp) _))) hn)))); refine wpQuiet_nil ?_; intro _ hw'; obtain ⟨⟨dq, osq⟩, hw''⟩ := hw'; subst hw'')
                      go_wp2
                      go_roundw
                      case rel => exact ⟨p + 1, by go_num, by omega, hok', by repeat first | exact hB | (refine bl_drewN ?_ _) | (refine bl_drew ?_) | (refine bl_grow ?_ (by first | omega | (simp; omega) | simp) _ _) | (refine bl_set ?_ (by first | omega | (simp; omega) | simp) _) | (refine bl_alloc ?_ (by first | omega | (simp; omega) | simp) _), by go_simp, by go_simp⟩
                      case measure => simp [intOf]; omega
                    · have hse : (sibAt s.sibs p).v.toList.isEmpty = false := by rw [isEmpty_size]; exact decide_eq_false he
                      have hno : Hid (svalid s = false) := svalid_no hlt (fun h => he (h.2.2.2 hg))
                      go_wp2
                      (refine wp_region_quiet_below (by kernel_rfl) (by kernel_rfl) ?_; (repeat (first | go_big_quiet_step (first | exact Calls.regrown_of (dvvOrder _ _ _) | exact Calls.regrown_of (vectorCovers _ _ _ _ _ (hr.mono (by repeat first | exact hB | (refine bl_drewN ?_ _) | (refine bl_drew ?_) | (refine bl_grow ?_ (by first | omega | (simp; omega) | simp) _ _) | (refine bl_set ?_ (by first | omega | (simp; omega) | simp) _) | (refine bl_alloc ?_ (by first | omega | (simp; omega) | simp) _))) hn)) | quiet_step (first | exact Calls.regrown_of (dvvOrder _ _ _) | exact Calls.regrown_of (vectorCovers _ _ _ _ _ (hr.mono (by repeat first | exact hB | (refine bl_drewN ?_ _) | (refine bl_drew ?_) | (refine bl_grow ?_ (by first | omega | (simp; omega) | simp) _ _) | (refine bl_set ?_ (by first | omega | (simp; omega) | simp) _) | (refine bl_alloc ?_ (by first | omega | (simp; omega) | simp) _))) hn)))); refine wpQuiet_nil ?_; intro _ hw'; obtain ⟨⟨dq, osq⟩, hw''⟩ := hw'; subst hw'')
                      go_wp2
                      go_ret
                      exact ⟨by rw [hno.out]; rfl, by repeat first | exact hB | (refine bl_drewN ?_ _) | (refine bl_drew ?_) | (refine bl_grow ?_ (by first | omega | (simp; omega) | simp) _ _) | (refine bl_set ?_ (by first | omega | (simp; omega) | simp) _) | (refine bl_alloc ?_ (by first | omega | (simp; omega) | simp) _)⟩
                  · have hg' : (sibAt s.sibs p).g = false := by simpa using hg
                    have HG := Lib.hid hg
                    clear hg
                    have hok' : Hid (∀ i, i < p + 1 → sibOk s i) := fun i hi => by
                      by_cases e : i < p
                      · exact hok i e
                      · obtain rfl : i = p := by omega
                        exact ⟨fun _ => ahead_iff.2 (by omega), hcv, by omega, fun h => absurd h HG.out⟩
                    go_wp2
                    (refine wp_region_quiet_below (by kernel_rfl) (by kernel_rfl) ?_; (repeat (first | go_big_quiet_step (first | exact Calls.regrown_of (dvvOrder _ _ _) | exact Calls.regrown_of (vectorCovers _ _ _ _ _ (hr.mono (by repeat first | exact hB | (refine bl_drewN ?_ _) | (refine bl_drew ?_) | (refine bl_grow ?_ (by first | omega | (simp; omega) | simp) _ _) | (refine bl_set ?_ (by first | omega | (simp; omega) | simp) _) | (refine bl_alloc ?_ (by first | omega | (simp; omega) | simp) _))) hn)) | quiet_step (first | exact Calls.regrown_of (dvvOrder _ _ _) | exact Calls.regrown_of (vectorCovers _ _ _ _ _ (hr.mono (by repeat first | exact hB | (refine bl_drewN ?_ _) | (refine bl_drew ?_) | (refine bl_grow ?_ (by first | omega | (simp; omega) | simp) _ _) | (refine bl_set ?_ (by first | omega | (simp; omega) | simp) _) | (refine bl_alloc ?_ (by first | omega | (simp; omega) | simp) _))) hn)))); refine wpQuiet_nil ?_; intro _ hw'; obtain ⟨⟨dq, osq⟩, hw''⟩ := hw'; subst hw'')
                    go_wp2
                    go_roundw
                    case rel => exact ⟨p + 1, by go_num, by omega, hok', by repeat first | exact hB | (refine bl_drewN ?_ _) | (refine bl_drew ?_) | (refine bl_grow ?_ (by first | omega | (simp; omega) | simp) _ _) | (refine bl_set ?_ (by first | omega | (simp; omega) | simp) _) | (refine bl_alloc ?_ (by first | omega | (simp; omega) | simp) _), by go_simp, by go_simp⟩
                    case measure => simp [intOf]; omega
              · have hcv' : vcovers s.seen (sibAt s.sibs p).d = false := by simpa using hcv
                have HC := Lib.hid hcv
                clear hcv
                have hno : Hid (svalid s = false) := svalid_no hlt (fun h => HC.out h.2.1)
                go_wp2
                (refine wp_region_quiet_below (by kernel_rfl) (by kernel_rfl) ?_; (repeat (first | go_big_quiet_step (first | exact Calls.regrown_of (dvvOrder _ _ _) | exact Calls.regrown_of (vectorCovers _ _ _ _ _ (hr.mono (by repeat first | exact hB | (refine bl_drewN ?_ _) | (refine bl_drew ?_) | (refine bl_grow ?_ (by first | omega | (simp; omega) | simp) _ _) | (refine bl_set ?_ (by first | omega | (simp; omega) | simp) _) | (refine bl_alloc ?_ (by first | omega | (simp; omega) | simp) _))) hn)) | quiet_step (first | exact Calls.regrown_of (dvvOrder _ _ _) | exact Calls.regrown_of (vectorCovers _ _ _ _ _ (hr.mono (by repeat first | exact hB | (refine bl_drewN ?_ _) | (refine bl_drew ?_) | (refine bl_grow ?_ (by first | omega | (simp; omega) | simp) _ _) | (refine bl_set ?_ (by first | omega | (simp; omega) | simp) _) | (refine bl_alloc ?_ (by first | omega | (simp; omega) | simp) _))) hn)))); refine wpQuiet_nil ?_; intro _ hw'; obtain ⟨⟨dq, osq⟩, hw''⟩ := hw'; subst hw'')
                go_wp2
                go_ret
                exact ⟨by rw [hno.out]; rfl, by repeat first | exact hB | (refine bl_drewN ?_ _) | (refine bl_drew ?_) | (refine bl_grow ?_ (by first | omega | (simp; omega) | simp) _ _) | (refine bl_set ?_ (by first | omega | (simp; omega) | simp) _) | (refine bl_alloc ?_ (by first | omega | (simp; omega) | simp) _)⟩
          · have hd0 : decide ((0 : Int) < p) = false := by simp; omega
            by_cases hcv : vcovers s.seen (sibAt s.sibs p).d = true
            · by_cases h40 : 40 < (sibAt s.sibs p).v.size
              · have hd2 : decide ((40 : Int) < ((sibAt s.sibs p).v.size : Int)) = true := decide_eq_true (by omega)
                have hno : Hid (svalid s = false) := svalid_no hlt (fun h => by have := h.2.2.1; omega)
                go_wp2
                (refine wp_region_quiet_below (by kernel_rfl) (by kernel_rfl) ?_; (repeat (first | go_big_quiet_step (first | exact Calls.regrown_of (dvvOrder _ _ _) | exact Calls.regrown_of (vectorCovers _ _ _ _ _ (hr.mono (by repeat first | exact hB | (refine bl_drewN ?_ _) | (refine bl_drew ?_) | (refine bl_grow ?_ (by first | omega | (simp; omega) | simp) _ _) | (refine bl_set ?_ (by first | omega | (simp; omega) | simp) _) | (refine bl_alloc ?_ (by first | omega | (simp; omega) | simp) _))) hn)) | quiet_step (first | exact Calls.regrown_of (dvvOrder _ _ _) | exact Calls.regrown_of (vectorCovers _ _ _ _ _ (hr.mono (by repeat first | exact hB | (refine bl_drewN ?_ _) | (refine bl_drew ?_) | (refine bl_grow ?_ (by first | omega | (simp; omega) | simp) _ _) | (refine bl_set ?_ (by first | omega | (simp; omega) | simp) _) | (refine bl_alloc ?_ (by first | omega | (simp; omega) | simp) _))) hn)))); refine wpQuiet_nil ?_; intro _ hw'; obtain ⟨⟨dq, osq⟩, hw''⟩ := hw'; subst hw'')
                go_wp2
                go_ret
                exact ⟨by rw [hno.out]; rfl, by repeat first | exact hB | (refine bl_drewN ?_ _) | (refine bl_drew ?_) | (refine bl_grow ?_ (by first | omega | (simp; omega) | simp) _ _) | (refine bl_set ?_ (by first | omega | (simp; omega) | simp) _) | (refine bl_alloc ?_ (by first | omega | (simp; omega) | simp) _)⟩
              · have hd2 : decide ((40 : Int) < ((sibAt s.sibs p).v.size : Int)) = false := decide_eq_false (by omega)
                by_cases hg : (sibAt s.sibs p).g = true
                · by_cases he : (sibAt s.sibs p).v.size = 0
                  · have hse : (sibAt s.sibs p).v.toList.isEmpty = true := by rw [isEmpty_size]; exact decide_eq_true he
                    have HE := Lib.hid he
                    clear he
                    have hok' : Hid (∀ i, i < p + 1 → sibOk s i) := fun i hi => by
                      by_cases e : i < p
                      · exact hok i e
                      · obtain rfl : i = p := by omega
                        exact ⟨fun h => absurd h h0, hcv, by omega, fun _ => HE.out⟩
                    go_wp2
                    (refine wp_region_quiet_below (by kernel_rfl) (by kernel_rfl) ?_; (repeat (first | go_big_quiet_step (first | exact Calls.regrown_of (dvvOrder _ _ _) | exact Calls.regrown_of (vectorCovers _ _ _ _ _ (hr.mono (by repeat first | exact hB | (refine bl_drewN ?_ _) | (refine bl_drew ?_) | (refine bl_grow ?_ (by first | omega | (simp; omega) | simp) _ _) | (refine bl_set ?_ (by first | omega | (simp; omega) | simp) _) | (refine bl_alloc ?_ (by first | omega | (simp; omega) | simp) _))) hn)) | quiet_step (first | exact Calls.regrown_of (dvvOrder _ _ _) | exact Calls.regrown_of (vectorCovers _ _ _ _ _ (hr.mono (by repeat first | exact hB | (refine bl_drewN ?_ _) | (refine bl_drew ?_) | (refine bl_grow ?_ (by first | omega | (simp; omega) | simp) _ _) | (refine bl_set ?_ (by first | omega | (simp; omega) | simp) _) | (refine bl_alloc ?_ (by first | omega | (simp; omega) | simp) _))) hn)))); refine wpQuiet_nil ?_; intro _ hw'; obtain ⟨⟨dq, osq⟩, hw''⟩ := hw'; subst hw'')
                    go_wp2
                    go_roundw
                    case rel => exact ⟨p + 1, by go_num, by omega, hok', by repeat first | exact hB | (refine bl_drewN ?_ _) | (refine bl_drew ?_) | (refine bl_grow ?_ (by first | omega | (simp; omega) | simp) _ _) | (refine bl_set ?_ (by first | omega | (simp; omega) | simp) _) | (refine bl_alloc ?_ (by first | omega | (simp; omega) | simp) _), by go_simp, by go_simp⟩
                    case measure => simp [intOf]; omega
                  · have hse : (sibAt s.sibs p).v.toList.isEmpty = false := by rw [isEmpty_size]; exact decide_eq_false he
                    have hno : Hid (svalid s = false) := svalid_no hlt (fun h => he (h.2.2.2 hg))
                    go_wp2
                    (refine wp_region_quiet_below (by kernel_rfl) (by kernel_rfl) ?_; (repeat (first | go_big_quiet_step (first | exact Calls.regrown_of (dvvOrder _ _ _) | exact Calls.regrown_of (vectorCovers _ _ _ _ _ (hr.mono (by repeat first | exact hB | (refine bl_drewN ?_ _) | (refine bl_drew ?_) | (refine bl_grow ?_ (by first | omega | (simp; omega) | simp) _ _) | (refine bl_set ?_ (by first | omega | (simp; omega) | simp) _) | (refine bl_alloc ?_ (by first | omega | (simp; omega) | simp) _))) hn)) | quiet_step (first | exact Calls.regrown_of (dvvOrder _ _ _) | exact Calls.regrown_of (vectorCovers _ _ _ _ _ (hr.mono (by repeat first | exact hB | (refine bl_drewN ?_ _) | (refine bl_drew ?_) | (refine bl_grow ?_ (by first | omega | (simp; omega) | simp) _ _) | (refine bl_set ?_ (by first | omega | (simp; omega) | simp) _) | (refine bl_alloc ?_ (by first | omega | (simp; omega) | simp) _))) hn)))); refine wpQuiet_nil ?_; intro _ hw'; obtain ⟨⟨dq, osq⟩, hw''⟩ := hw'; subst hw'')
                    go_wp2
                    go_ret
                    exact ⟨by rw [hno.out]; rfl, by repeat first | exact hB | (refine bl_drewN ?_ _) | (refine bl_drew ?_) | (refine bl_grow ?_ (by first | omega | (simp; omega) | simp) _ _) | (refine bl_set ?_ (by first | omega | (simp; omega) | simp) _) | (refine bl_alloc ?_ (by first | omega | (simp; omega) | simp) _)⟩
                · have hg' : (sibAt s.sibs p).g = false := by simpa using hg
                  have HG := Lib.hid hg
                  clear hg
                  have hok' : Hid (∀ i, i < p + 1 → sibOk s i) := fun i hi => by
                    by_cases e : i < p
                    · exact hok i e
                    · obtain rfl : i = p := by omega
                      exact ⟨fun h => absurd h h0, hcv, by omega, fun h => absurd h HG.out⟩
                  go_wp2
                  (refine wp_region_quiet_below (by kernel_rfl) (by kernel_rfl) ?_; (repeat (first | go_big_quiet_step (first | exact Calls.regrown_of (dvvOrder _ _ _) | exact Calls.regrown_of (vectorCovers _ _ _ _ _ (hr.mono (by repeat first | exact hB | (refine bl_drewN ?_ _) | (refine bl_drew ?_) | (refine bl_grow ?_ (by first | omega | (simp; omega) | simp) _ _) | (refine bl_set ?_ (by first | omega | (simp; omega) | simp) _) | (refine bl_alloc ?_ (by first | omega | (simp; omega) | simp) _))) hn)) | quiet_step (first | exact Calls.regrown_of (dvvOrder _ _ _) | exact Calls.regrown_of (vectorCovers _ _ _ _ _ (hr.mono (by repeat first | exact hB | (refine bl_drewN ?_ _) | (refine bl_drew ?_) | (refine bl_grow ?_ (by first | omega | (simp; omega) | simp) _ _) | (refine bl_set ?_ (by first | omega | (simp; omega) | simp) _) | (refine bl_alloc ?_ (by first | omega | (simp; omega) | simp) _))) hn)))); refine wpQuiet_nil ?_; intro _ hw'; obtain ⟨⟨dq, osq⟩, hw''⟩ := hw'; subst hw'')
                  go_wp2
                  go_roundw
                  case rel => exact ⟨p + 1, by go_num, by omega, hok', by repeat first | exact hB | (refine bl_drewN ?_ _) | (refine bl_drew ?_) | (refine bl_grow ?_ (by first | omega | (simp; omega) | simp) _ _) | (refine bl_set ?_ (by first | omega | (simp; omega) | simp) _) | (refine bl_alloc ?_ (by first | omega | (simp; omega) | simp) _), by go_simp, by go_simp⟩
                  case measure => simp [intOf]; omega
            · have hcv' : vcovers s.seen (sibAt s.sibs p).d = false := by simpa using hcv
              have HC := Lib.hid hcv
              clear hcv
              have hno : Hid (svalid s = false) := svalid_no hlt (fun h => HC.out h.2.1)
              go_wp2
              (refine wp_region_quiet_below (by kernel_rfl) (by kernel_rfl) ?_; (repeat (first | go_big_quiet_step (first | exact Calls.regrown_of (dvvOrder _ _ _) | exact Calls.regrown_of (vectorCovers _ _ _ _ _ (hr.mono (by repeat first | exact hB | (refine bl_drewN ?_ _) | (refine bl_drew ?_) | (refine bl_grow ?_ (by first | omega | (simp; omega) | simp) _ _) | (refine bl_set ?_ (by first | omega | (simp; omega) | simp) _) | (refine bl_alloc ?_ (by first | omega | (simp; omega) | simp) _))) hn)) | quiet_step (first | exact Calls.regrown_of (dvvOrder _ _ _) | exact Calls.regrown_of (vectorCovers _ _ _ _ _ (hr.mono (by repeat first | exact hB | (refine bl_drewN ?_ _) | (refine bl_drew ?_) | (refine bl_grow ?_ (by first | omega | (simp; omega) | simp) _ _) | (refine bl_set ?_ (by first | omega | (simp; omega) | simp) _) | (refine bl_alloc ?_ (by first | omega | (simp; omega) | simp) _))) hn)))); refine wpQuiet_nil ?_; intro _ hw'; obtain ⟨⟨dq, osq⟩, hw''⟩ := hw'; subst hw'')
              go_wp2
              go_ret
              exact ⟨by rw [hno.out]; rfl, by repeat first | exact hB | (refine bl_drewN ?_ _) | (refine bl_drew ?_) | (refine bl_grow ?_ (by first | omega | (simp; omega) | simp) _ _) | (refine bl_set ?_ (by first | omega | (simp; omega) | simp) _) | (refine bl_alloc ?_ (by first | omega | (simp; omega) | simp) _)⟩
        · have hfin : Hid (svalid s = true) := svalid_yes hv hl (fun i hi => hok i (by omega))
          obtain rfl : p = s.sibs.length := by omega
          go_wp2
          go_ret
          exact ⟨by rw [hfin.out]; rfl, hB⟩
    · have hno : Hid (svalid s = false) := by unfold Hid svalid; rw [decide_eq_false_iff_not]; exact fun h => hl h.2.1
      have hl' : (64 : Int) < s.sibs.length := by omega
      go_enter Try.func98, Try.ntmps98
      go_wp2_with (go_at_call 191; (refine (vectorValid _ _ _ _ (hr.mono (bl_alloc hB0 (Nat.le_refl _) _)) hn).mono ?_); rintro e w2 ⟨rfl, hb2⟩; have hc0 : w2.cell? ⟨w.heap.size, 0, none⟩ = some (.slice A s.seen.length c) := below_cell hb2 (by go_simp); have hc1 : w2.cell? ⟨w.heap.size, 1, none⟩ = some (.slice B s.sibs.length d) := below_cell hb2 (by go_simp))
      go_ret
      exact ⟨by rw [hno.out]; rfl, (hB0.alloc (Nat.le_refl _) _).trans (hb2.mono (by simp))⟩
  · have hno : Hid (svalid s = false) := by unfold Hid svalid; rw [decide_eq_false_iff_not]; exact fun h => hv h.1
    have hv' : vvalid s.seen = false := by simpa using hv
    clear hv
    go_enter Try.func98, Try.ntmps98
    go_wp2_with (go_at_call 191; (refine (vectorValid _ _ _ _ (hr.mono (bl_alloc hB0 (Nat.le_refl _) _)) hn).mono ?_); rintro e w2 ⟨rfl, hb2⟩)
    go_ret
    exact ⟨by rw [hno.out]; rfl, (hB0.alloc (Nat.le_refl _) _).trans (hb2.mono (by simp))⟩
end Go.Proofs.Ytfdiedcleggfnaa
