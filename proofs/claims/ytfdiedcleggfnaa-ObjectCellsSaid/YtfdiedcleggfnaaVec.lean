/- The vector package, and its reference: Valid, Count, Covers. -/
import Derived.Test.YtfdiedcleggfnaaBase
import Derived.Outline
namespace Go.Proofs.Ytfdiedcleggfnaa
open Go.RowKit

structure Dot where
  a : Int
  c : Int
  deriving DecidableEq
instance : Inhabited Dot := ⟨⟨0, 0⟩⟩
def dotV (d : Dot) : List Value := [.int .u32 d.a, .int .u64 d.c]
def dotAt (xs : List Dot) (k : Nat) : Dot := xs.getD k default
def dotWf (d : Dot) : Prop := 0 ≤ d.a ∧ d.a ≤ 4294967295 ∧ 0 ≤ d.c ∧ d.c ≤ 18446744073709551615
/-- The dots that a slice reads as. -/
def RdD (w : World) (A : Option Addr) (xs : List Dot) : Prop := Rd w A 2 (xs.map dotV) ∧ ∀ d ∈ xs, dotWf d
theorem dotAt_mem {xs : List Dot} {k : Nat} (hk : k < xs.length) : dotAt xs k ∈ xs := by
  unfold dotAt; rw [List.getD_eq_getElem?_getD, List.getElem?_eq_getElem hk]; exact List.getElem_mem hk
theorem RdD.at_ {w : World} {A : Option Addr} {xs : List Dot} (h : RdD w A xs) {k : Nat} (hk : k < xs.length) :
    ∃ b o, A = some ⟨b, o, none⟩ ∧ b < w.heap.size ∧ w.cell? ⟨b, o + k * 2, none⟩ = some (.int .u32 (dotAt xs k).a) ∧ w.cell? ⟨b, o + k * 2 + 1, none⟩ = some (.int .u64 (dotAt xs k).c) := by
  obtain ⟨b, o, e, hl, hc⟩ := h.1 k (by simpa using hk)
  rw [getD_map dotV default xs k hk] at hc
  exact ⟨b, o, e, hl, hc 0 _ rfl, hc 1 _ rfl⟩
theorem RdD.wf {w : World} {A : Option Addr} {xs : List Dot} (h : RdD w A xs) {k : Nat} (hk : k < xs.length) : dotWf (dotAt xs k) := h.2 _ (dotAt_mem hk)
theorem RdD.mono {w w' : World} {A : Option Addr} {xs : List Dot} (h : RdD w A xs) (hb : Below w.heap.size w w') : RdD w' A xs := ⟨h.1.mono hb, h.2⟩
theorem RdD.kp {w w' : World} {P : Nat → Prop} {A : Option Addr} {xs : List Dot} (h : RdD w A xs) (hb : Kp P w w') (hp : ∀ a, A = some a → ¬ P a.block) : RdD w' A xs := ⟨h.1.kp hb hp, h.2⟩

def dotOk (xs : List Dot) (i : Nat) : Prop := 1 ≤ (dotAt xs i).c ∧ (dotAt xs i).c ≤ 1099511627776 ∧ (0 < i → (dotAt xs (i - 1)).a < (dotAt xs i).a)
instance (xs : List Dot) (i : Nat) : Decidable (dotOk xs i) := by unfold dotOk; infer_instance
/-- May these dots be a vector? -/
def vvalid (xs : List Dot) : Bool := decide (xs.length ≤ 64 ∧ ∀ i, i < xs.length → dotOk xs i)
theorem vvalid_no {xs : List Dot} {i : Nat} (hi : i < xs.length) (h : ¬ dotOk xs i) : vvalid xs = false := by
  unfold vvalid; rw [decide_eq_false_iff_not]; exact fun ⟨_, h2⟩ => h (h2 i hi)
theorem vvalid_end {xs : List Dot} (h : ∀ i, i < xs.length → dotOk xs i) : vvalid xs = decide ((xs.length : Int) ≤ 64) := by
  unfold vvalid; rw [decide_eq_decide]; exact ⟨fun ⟨h1, _⟩ => by omega, fun h1 => ⟨by omega, h⟩⟩

set_option maxRecDepth 100000 in
set_option maxHeartbeats 2000000 in
theorem vectorValid (A : Option Addr) (c : Nat) (xs : List Dot) (w : World) (hr : RdD w A xs) (hn : xs.length ≤ 4611686018427387904) :
    Calls Try.prog 191 #[.slice A xs.length c] w fun e w' => e = .returned (.bool (vvalid xs)) ∧ Below w.heap.size w w' := by
  go_enter Try.func191, Try.ntmps191
  go_wp2
  go_loopw [7] (fun i W => ∃ p : Nat, i = .int .i64 p ∧ p ≤ xs.length ∧ Hid (∀ i, i < p → dotOk xs i) ∧ Below w.heap.size w W) (fun i _ => xs.length - (intOf i).toNat)
  case atStart => exact ⟨0, rfl, Nat.zero_le _, (fun i hi => by omega), Below.refl _ _⟩
  case round =>
    obtain ⟨p, rfl, hp, hok, hB⟩ := hrel
    have hS := hB.size
    by_cases hlt : p < xs.length
    · obtain ⟨b, o, rfl, hb, c1, c2⟩ := (hr.mono hB).at_ hlt
      have hwf : 0 ≤ (dotAt xs p).c := (hr.wf hlt).2.2.1
      by_cases h0 : (dotAt xs p).c = 0
      · have hd : ((dotAt xs p).c == 0) = true := by simp [h0]
        have hno : Hid (vvalid xs = false) := vvalid_no hlt (by unfold dotOk; omega)
        clear h0
        go_wp2
        go_quiet (fail)
        go_wp2
        go_ret
        exact ⟨by rw [hno.out]; rfl, by repeat first | exact hB | (refine bl_drewN ?_ _) | (refine bl_set ?_ (by first | omega | (simp; omega)) _) | (refine bl_alloc ?_ (by first | omega | (simp; omega)) _)⟩
      · have hd : ((dotAt xs p).c == 0) = false := by simp [h0]
        by_cases h1 : 1099511627776 < (dotAt xs p).c
        · have hd1 : decide (1099511627776 < (dotAt xs p).c) = true := decide_eq_true h1
          have hno : Hid (vvalid xs = false) := vvalid_no hlt (by unfold dotOk; omega)
          clear h0
          go_wp2
          go_quiet (fail)
          go_wp2
          go_ret
          exact ⟨by rw [hno.out]; rfl, by repeat first | exact hB | (refine bl_drewN ?_ _) | (refine bl_set ?_ (by first | omega | (simp; omega)) _) | (refine bl_alloc ?_ (by first | omega | (simp; omega)) _)⟩
        · have hd1 : decide (1099511627776 < (dotAt xs p).c) = false := decide_eq_false h1
          by_cases hp0 : 0 < p
          · have hd2 : decide ((0 : Int) < p) = true := by simp; omega
            have hlt' : p - 1 < xs.length := by omega
            obtain ⟨b', o', e, hb', c3, c4⟩ := (hr.mono hB).at_ hlt'
            cases e
            by_cases h3 : (dotAt xs p).a ≤ (dotAt xs (p - 1)).a
            · have hd3 : decide ((dotAt xs p).a ≤ (dotAt xs (p - 1)).a) = true := decide_eq_true h3
              have hno : Hid (vvalid xs = false) := vvalid_no hlt (by unfold dotOk; omega)
              clear h0
              have hq1 : (1 : Int) ≤ p := by omega
              go_wp2
              go_quiet (fail)
              go_wp2
              go_ret
              exact ⟨by rw [hno.out]; rfl, by repeat first | exact hB | (refine bl_drewN ?_ _) | (refine bl_set ?_ (by first | omega | (simp; omega)) _) | (refine bl_alloc ?_ (by first | omega | (simp; omega)) _)⟩
            · have hd3 : decide ((dotAt xs p).a ≤ (dotAt xs (p - 1)).a) = false := decide_eq_false h3
              have hok' : Hid (∀ i, i < p + 1 → dotOk xs i) := fun i hi => by
                by_cases e : i < p
                · exact hok i e
                · obtain rfl : i = p := by omega
                  unfold dotOk; exact ⟨by omega, by omega, fun _ => by omega⟩
              have hq1 : (1 : Int) ≤ p := by omega
              clear h0
              go_wp2
              go_quiet (fail)
              go_wp2
              go_roundw
              case rel => exact ⟨p + 1, by go_num, by omega, hok', by repeat first | exact hB | (refine bl_drewN ?_ _) | (refine bl_set ?_ (by first | omega | (simp; omega)) _) | (refine bl_alloc ?_ (by first | omega | (simp; omega)) _)⟩
              case measure => simp [intOf]; omega
          · have hd2 : decide ((0 : Int) < p) = false := by simp; omega
            have hok' : Hid (∀ i, i < p + 1 → dotOk xs i) := fun i hi => by
              by_cases e : i < p
              · exact hok i e
              · obtain rfl : i = p := by omega
                unfold dotOk; exact ⟨by omega, by omega, fun _ => by omega⟩
            clear h0
            go_wp2
            go_quiet (fail)
            go_wp2
            go_roundw
            case rel => exact ⟨p + 1, by go_num, by omega, hok', by repeat first | exact hB | (refine bl_drewN ?_ _) | (refine bl_set ?_ (by first | omega | (simp; omega)) _) | (refine bl_alloc ?_ (by first | omega | (simp; omega)) _)⟩
            case measure => simp [intOf]; omega
    · obtain rfl : p = xs.length := by omega
      have he : Hid (vvalid xs = decide ((xs.length : Int) ≤ 64)) := vvalid_end hok
      go_wp2
      go_ret
      exact ⟨by rw [he.out]; first | rfl | (simp; done), hB⟩

/-! ### Count -/
def cmpI (a b : Int) : Int := if a < b then -1 else if b < a then 1 else 0
theorem cmpI_lt {a b : Int} : cmpI a b < 0 ↔ a < b := by unfold cmpI; split <;> (try split) <;> omega
theorem cmpI_ge {a b : Int} : 0 ≤ cmpI a b ↔ b ≤ a := by unfold cmpI; split <;> (try split) <;> omega
theorem cmpI_eq {a b : Int} : cmpI a b = 0 ↔ a = b := by unfold cmpI; split <;> (try split) <;> omega

theorem compare32 (a b : Int) (w : World) : Calls Try.prog 251 #[.int .u32 a, .int .u32 b] w fun e w' => e = .returned (.int .i64 (cmpI a b)) ∧ w = w' := by
  by_cases h1 : a < b
  · have e : cmpI a b = -1 := by simp [cmpI, h1]
    rw [e]; clear e
    go_enter Try.func251, Try.ntmps251
    go_wp2
    go_ret
    exact ⟨rfl, rfl⟩
  · by_cases h2 : b < a
    · have e : cmpI a b = 1 := by simp [cmpI, h1, h2]
      rw [e]; clear e
      go_enter Try.func251, Try.ntmps251
      go_wp2
      go_ret
      exact ⟨rfl, rfl⟩
    · have e : cmpI a b = 0 := by simp [cmpI, h1, h2]
      rw [e]; clear e
      go_enter Try.func251, Try.ntmps251
      go_wp2
      go_ret
      exact ⟨rfl, rfl⟩

theorem count1 (a c b : Int) (w : World) : Calls Try.prog 263 #[.agg #[.int .u32 a, .int .u64 c], .int .u32 b] w fun e w' => e = .returned (.int .i64 (cmpI a b)) ∧ Below w.heap.size w w' := by
  go_enter Try.func263, Try.ntmps263
  go_wp2_with (go_at_call 251; refine (compare32 a b _).mono ?_; rintro e w' ⟨rfl, rfl⟩)
  go_ret
  exact ⟨rfl, (Below.refl _ _).alloc (Nat.le_refl _) _⟩

/-- What a binary search tells of f over 0, .., n - 1. -/
def BsPost (n : Nat) (f : Nat → Int) (w : World) (e : Ending) (w' : World) : Prop :=
  ∃ (i : Nat) (ok : Bool), i ≤ n ∧ (i = 0 ∨ f (i - 1) < 0) ∧ (i = n ∨ 0 ≤ f i) ∧ (ok = true ↔ i < n ∧ f i = 0) ∧ e = .returned (.tuple #[.int .i64 i, .bool ok]) ∧ Below w.heap.size w w'

set_option maxRecDepth 100000 in
set_option maxHeartbeats 2000000 in
theorem bsDots (A : Option Addr) (c : Nat) (xs : List Dot) (t : Int) (w : World) (hr : RdD w A xs) (hn : xs.length ≤ 4611686018427387904) :
    Calls Try.prog 262 #[.slice A xs.length c, .int .u32 t, .func (.func 263) #[] #[]] w
      (BsPost xs.length (fun k => cmpI (dotAt xs k).a t) w) := by
  go_enter Try.func262, Try.ntmps262
  go_wp2
  go_loopw [9, 10] (fun i j W => ∃ p q : Nat, i = .int .i64 p ∧ j = .int .i64 q ∧ p ≤ q ∧ q ≤ xs.length ∧ (p = 0 ∨ cmpI (dotAt xs (p-1)).a t < 0) ∧ (q = xs.length ∨ 0 ≤ cmpI (dotAt xs q).a t) ∧ Below w.heap.size w W) (fun i j _ => ((intOf j) - (intOf i)).toNat)
  case atStart => exact ⟨0, xs.length, rfl, rfl, Nat.zero_le _, Nat.le_refl _, .inl rfl, .inl rfl, Below.refl _ _⟩
  case round =>
    obtain ⟨p, q, rfl, rfl, hpq, hq, hp0, hq0, hB⟩ := hrel
    by_cases hlt : p < q
    · have h1 : (p + q) / 2 < xs.length := by omega
      obtain ⟨b, o, rfl, hb, c1, c2⟩ := (hr.mono hB).at_ h1
      by_cases hc : cmpI (dotAt xs ((p + q) / 2)).a t < 0
      · have hcb : decide (cmpI (dotAt xs ((p + q) / 2)).a t < 0) = true := decide_eq_true hc
        go_wp2_with (go_at_call 263; (with_reducible refine (count1 _ _ _ _).mono ?_); rintro e W1 ⟨rfl, hb1⟩)
        go_roundw
        case rel => exact ⟨(p + q) / 2 + 1, q, by go_num, rfl, by omega, hq, .inr hc, hq0, hB.trans (hb1.mono hB.size)⟩
        case measure => simp [intOf]; omega
      · have hcb : decide (cmpI (dotAt xs ((p + q) / 2)).a t < 0) = false := decide_eq_false hc
        go_wp2_with (go_at_call 263; (with_reducible refine (count1 _ _ _ _).mono ?_); rintro e W1 ⟨rfl, hb1⟩)
        go_roundw
        case rel => exact ⟨p, (p + q) / 2, rfl, by go_num, by omega, by omega, hp0, .inr (by omega), hB.trans (hb1.mono hB.size)⟩
        case measure => simp [intOf]; omega
    · obtain rfl : p = q := by omega
      by_cases hpn : p < xs.length
      · obtain ⟨b, o, rfl, hb, c1, c2⟩ := (hr.mono hB).at_ hpn
        go_wp2_with (go_at_call 263; (with_reducible refine (count1 _ _ _ _).mono ?_); rintro e W1 ⟨rfl, hb1⟩)
        go_ret2
        exact ⟨p, cmpI (dotAt xs p).a t == 0, hq, hp0, hq0, by simp [hpn], rfl, hB.trans (hb1.mono hB.size)⟩
      · go_wp2
        go_ret2
        exact ⟨p, false, hq, hp0, hq0, by simp [hpn], rfl, hB⟩

/-- An actor's first count. -/
def vlook : List Dot → Int → Int
  | [], _ => 0
  | d :: ds, a => if d.a = a then d.c else vlook ds a
theorem vlook_at {xs : List Dot} {a : Int} {p : Nat} (hp : p < xs.length) (hne : ∀ i, i < p → (dotAt xs i).a ≠ a) (h : (dotAt xs p).a = a) : vlook xs a = (dotAt xs p).c := by
  induction xs generalizing p with
  | nil => simp at hp
  | cons d ds ih =>
    cases p with
    | zero => simp only [dotAt, List.getD_cons_zero] at h ⊢; simp [vlook, h]
    | succ p =>
      have h0 := hne 0 (by omega)
      simp only [dotAt, List.getD_cons_zero] at h0
      simp only [vlook, if_neg h0]
      exact ih (p := p) (by simpa using hp) (fun i hi => by have := hne (i + 1) (by omega); simpa [dotAt] using this) (by simpa [dotAt] using h)
theorem vlook_none {xs : List Dot} {a : Int} (hne : ∀ i, i < xs.length → (dotAt xs i).a ≠ a) : vlook xs a = 0 := by
  induction xs with
  | nil => rfl
  | cons d ds ih =>
    have h0 := hne 0 (by simp)
    simp only [dotAt, List.getD_cons_zero] at h0
    simp only [vlook, if_neg h0]
    exact ih (fun i hi => by have := hne (i + 1) (by simpa using hi); simpa [dotAt] using this)
def vcount (xs : List Dot) (a : Int) : Int := if vvalid xs = true then vlook xs a else 0
theorem vsorted {xs : List Dot} (h : vvalid xs = true) {i j : Nat} (hij : i < j) (hj : j < xs.length) : (dotAt xs i).a < (dotAt xs j).a := by
  have hv := (of_decide_eq_true h).2
  induction j with
  | zero => omega
  | succ j ih =>
    have h1 := (hv (j + 1) hj).2.2 (by omega)
    simp only [Nat.add_sub_cancel] at h1
    by_cases e : i = j
    · subst e; exact h1
    · have := ih (by omega) (by omega); omega

set_option maxRecDepth 100000 in
set_option maxHeartbeats 2000000 in
theorem vectorCount (A : Option Addr) (c : Nat) (xs : List Dot) (t : Int) (w : World) (hr : RdD w A xs) (hn : xs.length ≤ 4611686018427387904) :
    Calls Try.prog 208 #[.slice A xs.length c, .int .u32 t] w fun e w' => e = .returned (.int .u64 (vcount xs t)) ∧ Below w.heap.size w w' := by
  go_enter Try.func208, Try.ntmps208
  go_wp2_with fail
  refine (bsDots A c xs t w hr hn).mono ?_
  rintro e w1 ⟨i, ok, hi, h0, h1, hok, rfl, hb1⟩
  cases ok with
  | false =>
    have hz : Hid (vcount xs t = 0) := by
      unfold Hid vcount
      split
      · rename_i hv
        refine vlook_none fun j hj he => ?_
        have hno : ¬ (i < xs.length ∧ cmpI (dotAt xs i).a t = 0) := fun h => by simpa using hok.2 h
        by_cases hji : j < i
        · have h2 := h0.resolve_left (by omega)
          rw [cmpI_lt] at h2
          by_cases e : j = i - 1
          · subst e; omega
          · have := vsorted hv (show j < i - 1 by omega) (by omega); omega
        · have hin : i < xs.length := by omega
          have h2 := h1.resolve_left (by omega)
          have h3 : cmpI (dotAt xs i).a t ≠ 0 := fun h => hno ⟨hin, h⟩
          rw [cmpI_ge] at h2
          rw [Ne, cmpI_eq] at h3
          by_cases e : i = j
          · subst e; omega
          · have := vsorted hv (show i < j by omega) hj; omega
      · rfl
    clear hok h0 h1
    go_wp2
    go_ret
    exact ⟨by rw [hz.out]; rfl, hb1⟩
  | true =>
    have h2 := hok.1 rfl
    obtain ⟨b, o, rfl, hb, c1, c2⟩ := (hr.mono hb1).at_ h2.1
    have hil := h2.1
    have ht := Lib.hid h2.2
    clear hok h0 h1 h2
    by_cases hv : vvalid xs = true
    · have hz : Hid (vcount xs t = (dotAt xs i).c) := by
        unfold Hid vcount
        rw [if_pos hv]
        have := cmpI_eq.1 ht.out
        exact vlook_at hil (fun j hj => by have := vsorted hv hj hil; omega) this
      have hr1 := hr.mono hb1
      go_wp2_with (go_at_call 191; refine (vectorValid _ _ _ _ hr1 hn).mono ?_; rintro e w2 ⟨rfl, hb2⟩; have c3 := below_cell hb2 c2)
      go_ret
      exact ⟨by rw [hz.out]; rfl, below_of hb1 hb2⟩
    · have hv' : vvalid xs = false := by simpa using hv
      have hz : Hid (vcount xs t = 0) := by unfold Hid vcount; rw [if_neg hv]
      have hr1 := hr.mono hb1
      clear hv
      go_wp2_with (go_at_call 191; refine (vectorValid _ _ _ _ hr1 hn).mono ?_; rintro e w2 ⟨rfl, hb2⟩)
      go_ret
      exact ⟨by rw [hz.out]; rfl, below_of hb1 hb2⟩
end Go.Proofs.Ytfdiedcleggfnaa
