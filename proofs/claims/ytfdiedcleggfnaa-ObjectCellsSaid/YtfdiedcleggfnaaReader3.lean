/- The Reader's other methods. -/
import Derived.Test.YtfdiedcleggfnaaReader2
namespace Go.Proofs.Ytfdiedcleggfnaa
open Go.RowKit Go.Sort
attribute [local go_sem] grow_cell

theorem uvarF_ok (s : ByteArray) (at_ : Nat) (most : Int) : ∀ (f i acc : Nat), (uvarF s at_ most f i acc).1 = 0 → ((uvarF s at_ most f i acc).2.1 : Int) ≤ most ∧ at_ + (uvarF s at_ most f i acc).2.2 ≤ s.size
  | 0, _, _, h => by simp [uvarF] at h
  | f + 1, i, acc, h => by
    unfold uvarF at h ⊢
    split
    · rename_i h1; rw [if_pos h1] at h; simp at h
    · rename_i h1
      rw [if_neg h1] at h
      split
      · rename_i h2; rw [if_pos h2] at h; simp at h
      · rename_i h2
        rw [if_neg h2] at h
        split
        · rename_i h3
          rw [if_pos h3] at h
          exact uvarF_ok s at_ most f _ _ h
        · rename_i h3
          rw [if_neg h3] at h
          split
          · rename_i h4; rw [if_pos h4] at h; simp at h
          · rename_i h4
            simp only [not_or] at h4
            exact ⟨by simpa using h4.2, by simp only; omega⟩
theorem uvarF_no (s : ByteArray) (at_ : Nat) (most : Int) : ∀ (f i acc : Nat), (uvarF s at_ most f i acc).1 ≠ 0 → (uvarF s at_ most f i acc).2 = (0, 0)
  | 0, _, _, h => by simp [uvarF]
  | f + 1, i, acc, h => by
    unfold uvarF at h ⊢
    split
    · rfl
    · rename_i h1
      rw [if_neg h1] at h
      split
      · rfl
      · rename_i h2
        rw [if_neg h2] at h
        split
        · rename_i h3
          rw [if_pos h3] at h
          exact uvarF_no s at_ most f _ _ h
        · rename_i h3
          rw [if_neg h3] at h
          split
          · rfl
          · rename_i h4; rw [if_neg h4] at h; simp at h
theorem uvar_ok {s : ByteArray} {at_ : Nat} {most : Int} (h : (uvar s at_ most).1 = 0) : ((uvar s at_ most).2.1 : Int) ≤ most ∧ at_ + (uvar s at_ most).2.2 ≤ s.size := uvarF_ok s at_ most _ _ _ h
theorem uvar_no {s : ByteArray} {at_ : Nat} {most : Int} (h : (uvar s at_ most).1 ≠ 0) : (uvar s at_ most).2 = (0, 0) := uvarF_no s at_ most _ _ _ h

/-- What is read, where the reader stands behind it, its error. -/
def rdU (s : ByteArray) (at_ : Nat) (err most : Int) : Nat × Nat × Int := if err = 0 then ((uvar s at_ most).2.1, at_ + (uvar s at_ most).2.2, (uvar s at_ most).1) else (0, at_, err)
def rdB (s : ByteArray) (at_ : Nat) (err : Int) : Nat × Nat × Int := if err = 0 then (if at_ + 1 ≤ s.size then (byteAt s at_, at_ + 1, 0) else (0, at_, 10)) else (0, at_, err)
def rdT (s : ByteArray) (at_ : Nat) (err most : Int) : ByteArray × Nat × Int :=
  if err = 0 then
    (if (uvar s at_ most).1 = 0 then (if at_ + (uvar s at_ most).2.2 + (uvar s at_ most).2.1 ≤ s.size then (s.extract (at_ + (uvar s at_ most).2.2) (at_ + (uvar s at_ most).2.2 + (uvar s at_ most).2.1), at_ + (uvar s at_ most).2.2 + (uvar s at_ most).2.1, 0) else (⟨#[]⟩, at_, 10))
     else (⟨#[]⟩, at_, (uvar s at_ most).1))
  else (⟨#[]⟩, at_, err)

theorem rUint (g : Nat) (s : ByteArray) (at_ : Nat) (err most : Int) (w : World) (h : IsR 247 w g s at_ err) :
    Calls Try.prog 109 #[.pointer (some ⟨g, 0, none⟩), .int .u64 most] w fun e w' => e = .returned (.int .u64 (rdU s at_ err most).1) ∧ RKp 247 g s w (rdU s at_ err most).2.1 (rdU s at_ err most).2.2 w' := by
  by_cases he : err = 0
  · subst he
    exact (readerUint g s at_ most w h).mono fun e w' h => by unfold rdU; rw [if_pos rfl]; exact h
  · exact (readerUintNo g s at_ err most w h he).mono fun e w' ⟨h1, h2⟩ => by
      subst h2; unfold rdU; rw [if_neg he]; exact ⟨h1, h, Kp.refl _ _⟩

theorem rTakeNo (g : Nat) (s : ByteArray) (at_ : Nat) (err : Int) (n : Int) (m : Nat) (hnm : n = m) (w : World) (h : IsR 247 w g s at_ err) (he : err ≠ 0) :
    Calls Try.prog 199 #[.pointer (some ⟨g, 0, none⟩), .int .i64 n] w fun e w' => e = .returned (.tuple #[.string ⟨#[]⟩, .bool false]) ∧ w = w' := by
  subst hnm; exact readerTakeNo g s at_ err m w h he
theorem rTakeShort (g : Nat) (s : ByteArray) (at_ : Nat) (n : Int) (m : Nat) (hnm : n = m) (w : World) (h : IsR 247 w g s at_ 0) (hn : s.size < at_ + m) :
    Calls Try.prog 199 #[.pointer (some ⟨g, 0, none⟩), .int .i64 n] w fun e w' => e = .returned (.tuple #[.string ⟨#[]⟩, .bool false]) ∧ RKp 247 g s w at_ 10 w' := by
  subst hnm; exact readerTakeShort g s at_ m w h hn
theorem rTakeYes (g : Nat) (s : ByteArray) (at_ : Nat) (n : Int) (m : Nat) (hnm : n = m) (w : World) (h : IsR 247 w g s at_ 0) (hn : at_ + m ≤ s.size) :
    Calls Try.prog 199 #[.pointer (some ⟨g, 0, none⟩), .int .i64 n] w fun e w' => e = .returned (.tuple #[.string (s.extract at_ (at_ + m)), .bool true]) ∧ RKp 247 g s w (at_ + m) 0 w' := by
  subst hnm; exact readerTakeYes g s at_ m w h hn

set_option maxRecDepth 100000 in
set_option maxHeartbeats 2000000 in
theorem rByte (g : Nat) (s : ByteArray) (at_ : Nat) (err : Int) (w : World) (h : IsR 247 w g s at_ err) :
    Calls Try.prog 110 #[.pointer (some ⟨g, 0, none⟩)] w fun e w' => e = .returned (.int .u8 (rdB s at_ err).1) ∧ RKp 247 g s w (rdB s at_ err).2.1 (rdB s at_ err).2.2 w' := by
  have hh0 : Hid (((hiB ⟨#[]⟩ (⟨#[]⟩ : ByteArray).size : Nat) : Int) = 0) := rfl
  by_cases he : err = 0
  · subst he
    by_cases hs : at_ + 1 ≤ s.size
    · have hr : Hid (rdB s at_ 0 = (byteAt s at_, at_ + 1, 0)) := by unfold Hid rdB; rw [if_pos rfl, if_pos hs]
      have hsz : (s.extract at_ (at_ + 1)).size = 1 := by simp; omega
      have hv : Hid (((hiB (s.extract at_ (at_ + 1)) (s.extract at_ (at_ + 1)).size : Nat) : Int) = byteAt s at_) := by
        unfold Hid; rw [hsz]
        simp only [hiB, Nat.zero_mul, Nat.zero_add]
        unfold byteAt
        simp [ByteArray.data_extract, List.getD_eq_getElem?_getD]
      have hbl := byteAt_lt s at_
      have hs8 : (s.extract at_ (at_ + 1)).size ≤ 8 := by omega
      have hH : ∀ W, Calls Try.prog 200 #[.string (s.extract at_ (at_ + 1))] W fun e w' => e = .returned (.int .u64 (byteAt s at_)) ∧ W = w' := fun W => by
        have := wireHigh (s.extract at_ (at_ + 1)) W hs8
        rwa [hv.out] at this
      have HH := Lib.hid hH
      clear hsz hv hH hs8
      go_enter Try.func110, Try.ntmps110
      go_wp2_with (first | (go_at_call 199; (with_reducible refine (rTakeYes g s at_ 1 1 rfl w h hs).mono ?_); rintro e w2 ⟨rfl, hw2⟩) | (go_at_call 200; refine (HH.out _).mono ?_; rintro e w3 ⟨rfl, rfl⟩))
      go_ret
      exact ⟨by rw [hr.out]; rfl, by rw [hr.out]; exact hw2⟩
    · have hr : Hid (rdB s at_ 0 = (0, at_, 10)) := by unfold Hid rdB; rw [if_pos rfl, if_neg hs]
      have hH := fun W => wireHigh (⟨#[]⟩ : ByteArray) W (by decide)
      have HH := Lib.hid hH
      clear hH
      go_enter Try.func110, Try.ntmps110
      go_wp2_with (first | (go_at_call 199; (with_reducible refine (rTakeShort g s at_ 1 1 rfl w h (by omega)).mono ?_); rintro e w2 ⟨rfl, hw2⟩) | (go_at_call 200; refine (HH.out _).mono ?_; rintro e w3 ⟨rfl, rfl⟩))
      go_ret
      exact ⟨by rw [hr.out]; rfl, by rw [hr.out]; exact hw2⟩
  · have hr : Hid (rdB s at_ err = (0, at_, err)) := by unfold Hid rdB; rw [if_neg he]
    have hH := fun W => wireHigh (⟨#[]⟩ : ByteArray) W (by decide)
    have HH := Lib.hid hH
    have HE := Lib.hid he
    clear hH he
    go_enter Try.func110, Try.ntmps110
    go_wp2_with (first | (go_at_call 199; (with_reducible refine (rTakeNo g s at_ err 1 1 rfl w h HE.out).mono ?_); rintro e w2 ⟨rfl, rfl⟩) | (go_at_call 200; refine (HH.out _).mono ?_; rintro e w3 ⟨rfl, rfl⟩))
    go_ret
    exact ⟨by rw [hr.out]; rfl, by rw [hr.out]; exact ⟨h, Kp.refl _ _⟩⟩

theorem readerErr (g : Nat) (s : ByteArray) (at_ : Nat) (err : Int) (w : World) (h : IsR 247 w g s at_ err) :
    Calls Try.prog 125 #[.pointer (some ⟨g, 0, none⟩)] w fun e w' => e = .returned (.int .i64 err) ∧ w = w' := by
  obtain ⟨c0, c1, c2, f0, f1, f2, h1, h2, hgl⟩ := h.open_
  go_enter Try.func125, Try.ntmps125
  go_wp2
  go_ret
  exact ⟨rfl, rfl⟩

set_option maxRecDepth 100000 in
set_option maxHeartbeats 2000000 in
theorem readerFail (g : Nat) (s : ByteArray) (at_ : Nat) (err n : Int) (w : World) (h : IsR 247 w g s at_ err) :
    Calls Try.prog 198 #[.pointer (some ⟨g, 0, none⟩), .int .i64 n] w fun e w' => e = .returned (.tuple #[]) ∧ RKp 247 g s w at_ (if err = 0 then n else err) w' := by
  obtain ⟨c0, c1, c2, f0, f1, f2, h1, h2, hgl⟩ := h.open_
  by_cases he : err = 0
  · rw [if_pos he]
    have hd : (err == 0) = true := by simpa using he
    clear he
    go_enter Try.func198, Try.ntmps198
    go_wp2
    go_end0
    exact ⟨rfl, h.setErr n, Kp.set (P := fun k => k = g) (Kp.refl _ _) (.inl rfl) _⟩
  · rw [if_neg he]
    have hd : (err == 0) = false := by simpa using he
    clear he
    go_enter Try.func198, Try.ntmps198
    go_wp2
    go_end0
    exact ⟨rfl, h, Kp.refl _ _⟩

def rdEnd (s : ByteArray) (at_ : Nat) (err : Int) : Int := if err = 0 ∧ at_ < s.size then 12 else err
set_option maxRecDepth 100000 in
set_option maxHeartbeats 2000000 in
theorem readerEnd (g : Nat) (s : ByteArray) (at_ : Nat) (err : Int) (w : World) (h : IsR 247 w g s at_ err) :
    Calls Try.prog 112 #[.pointer (some ⟨g, 0, none⟩)] w fun e w' => e = .returned (.int .i64 (rdEnd s at_ err)) ∧ Below w.heap.size w w' := by
  obtain ⟨c0, c1, c2, f0, f1, f2, h1, h2, hgl⟩ := h.open_
  have hB := Below.refl w.heap.size w
  by_cases he : err = 0
  · have hd : (err == 0) = true := by simpa using he
    by_cases hs : at_ < s.size
    · have hs' : decide ((at_ : Int) < (s.size : Int)) = true := decide_eq_true (by omega)
      have hr : Hid (rdEnd s at_ err = 12) := if_pos ⟨he, hs⟩
      clear he
      go_enter Try.func112, Try.ntmps112
      go_wp2
      go_quiet (fail)
      go_wp2
      go_ret
      exact ⟨by rw [hr.out]; rfl, by repeat first | exact hB | (refine bl_drewN ?_ _) | (refine bl_drew ?_) | (refine bl_grow ?_ (by first | omega | (simp; omega) | simp) _ _) | (refine bl_set ?_ (by first | omega | (simp; omega) | simp) _) | (refine bl_alloc ?_ (by first | omega | (simp; omega) | simp) _)⟩
    · have hs' : decide ((at_ : Int) < (s.size : Int)) = false := decide_eq_false (by omega)
      have hr : Hid (rdEnd s at_ err = err) := if_neg (fun h => hs h.2)
      clear he
      go_enter Try.func112, Try.ntmps112
      go_wp2
      go_quiet (fail)
      go_wp2_with (go_at_call 125; refine (readerErr g s at_ err _ (h.drewN _)).mono ?_; rintro e w3 ⟨rfl, rfl⟩)
      go_ret
      exact ⟨by rw [hr.out]; rfl, by repeat first | exact hB | (refine bl_drewN ?_ _) | (refine bl_drew ?_) | (refine bl_grow ?_ (by first | omega | (simp; omega) | simp) _ _) | (refine bl_set ?_ (by first | omega | (simp; omega) | simp) _) | (refine bl_alloc ?_ (by first | omega | (simp; omega) | simp) _)⟩
  · have hd : (err == 0) = false := by simpa using he
    have hr : Hid (rdEnd s at_ err = err) := if_neg (fun h => he h.1)
    clear he
    go_enter Try.func112, Try.ntmps112
    go_wp2
    go_quiet (fail)
    go_wp2_with (go_at_call 125; refine (readerErr g s at_ err _ (h.drewN _)).mono ?_; rintro e w3 ⟨rfl, rfl⟩)
    go_ret
    exact ⟨by rw [hr.out]; rfl, by repeat first | exact hB | (refine bl_drewN ?_ _) | (refine bl_drew ?_) | (refine bl_grow ?_ (by first | omega | (simp; omega) | simp) _ _) | (refine bl_set ?_ (by first | omega | (simp; omega) | simp) _) | (refine bl_alloc ?_ (by first | omega | (simp; omega) | simp) _)⟩

theorem newReader (s : ByteArray) (w : World) (hs : s.size ≤ 140737488351232) : Calls Try.prog 107 #[.string s] w fun e w' => e = .returned (.pointer (some ⟨w.heap.size, 0, none⟩)) ∧ IsR 247 w' w.heap.size s 0 0 ∧ Below w.heap.size w w' ∧ w'.heap.size = w.heap.size + 1 := by
  have HF : ∀ e w', (e = Ending.returned (.pointer (some ⟨w.heap.size, 0, none⟩)) ∧ w' = w.alloc (.cells #[.string s, .int .i64 0, .int .i64 0] 247)) → (e = .returned (.pointer (some ⟨w.heap.size, 0, none⟩)) ∧ IsR 247 w' w.heap.size s 0 0 ∧ Below w.heap.size w w' ∧ w'.heap.size = w.heap.size + 1) := by
    rintro e w' ⟨rfl, rfl⟩
    exact ⟨rfl, ⟨heap_alloc_new w _, Nat.zero_le _, hs⟩, (Below.refl _ _).alloc (Nat.le_refl _) _, by simp⟩
  refine Calls.mono ?_ HF
  clear HF
  go_enter Try.func107, Try.ntmps107
  go_wp2
  go_ret
  exact ⟨rfl, rfl⟩

set_option maxRecDepth 100000 in
set_option maxHeartbeats 2000000 in
theorem rText (g : Nat) (s : ByteArray) (at_ : Nat) (err most : Int) (w : World) (h : IsR 247 w g s at_ err) (hm : 0 ≤ most) (hm2 : most ≤ 4611686018427387904) :
    Calls Try.prog 111 #[.pointer (some ⟨g, 0, none⟩), .int .i64 most] w fun e w' => e = .returned (.string (rdT s at_ err most).1) ∧ RKp 247 g s w (rdT s at_ err most).2.1 (rdT s at_ err most).2.2 w' := by
  obtain ⟨c0, c1, c2, f0, f1, f2, h1, h2, hgl⟩ := h.open_
  have hmost : IntKind.u64.wrap most = most := by rw [wrap_u64]; omega
  by_cases he : err = 0
  · subst he
    have hU := rUint g s at_ 0 most w h
    unfold rdU at hU
    simp only [if_true] at hU
    by_cases hu : (uvar s at_ most).1 = 0
    · obtain ⟨o1, o2⟩ := uvar_ok hu
      rw [hu] at hU
      by_cases hs : at_ + (uvar s at_ most).2.2 + (uvar s at_ most).2.1 ≤ s.size
      · have hr : Hid (rdT s at_ 0 most = (s.extract (at_ + (uvar s at_ most).2.2) (at_ + (uvar s at_ most).2.2 + (uvar s at_ most).2.1), at_ + (uvar s at_ most).2.2 + (uvar s at_ most).2.1, 0)) := by
          unfold Hid rdT; rw [if_pos rfl, if_pos hu, if_pos hs]
        have HU := Lib.hid hU
        clear hu hU
        generalize (uvar s at_ most).2.1 = v at *
        generalize (uvar s at_ most).2.2 = k at *
        go_enter Try.func111, Try.ntmps111
        go_wp2_with (first | (go_at_call 109; refine HU.out.mono ?_; rintro e w2 ⟨rfl, hw2⟩) | (go_at_call 199; refine (rTakeYes g s (at_ + k) (v : Int) v rfl w2 hw2.1 hs).mono ?_; rintro e w3 ⟨rfl, hw3⟩))
        go_ret
        exact ⟨by rw [hr.out]; rfl, by rw [hr.out]; exact ⟨hw3.1, hw2.2.trans hw3.2 (fun _ _ h => h)⟩⟩
      · have hr : Hid (rdT s at_ 0 most = (⟨#[]⟩, at_, 10)) := by
          unfold Hid rdT; rw [if_pos rfl, if_pos hu, if_neg hs]
        have HU := Lib.hid hU
        clear hu hU
        generalize (uvar s at_ most).2.1 = v at *
        generalize (uvar s at_ most).2.2 = k at *
        go_enter Try.func111, Try.ntmps111
        go_wp2_with (first | (go_at_call 109; refine HU.out.mono ?_; rintro e w2 ⟨rfl, hw2⟩) | (go_at_call 199; refine (rTakeShort g s (at_ + k) (v : Int) v rfl w2 hw2.1 (by omega)).mono ?_; rintro e w3 ⟨rfl, hw3⟩; obtain ⟨e0, e1, e2, p0, p1, p2, -, -, -⟩ := hw3.1.open_))
        go_ret
        exact ⟨by rw [hr.out]; rfl, by rw [hr.out]; exact ⟨hw3.1.setAt at_ h1, Kp.set (P := fun k => k = g) (hw2.2.trans hw3.2 (fun _ _ h => h)) (.inl rfl) _⟩⟩
    · have hno := uvar_no hu
      have hr : Hid (rdT s at_ 0 most = (⟨#[]⟩, at_, (uvar s at_ most).1)) := by
        unfold Hid rdT; rw [if_pos rfl, if_neg hu]
      rw [hno] at hU
      have hU' : Calls Try.prog 109 #[.pointer (some ⟨g, 0, none⟩), .int .u64 most] w fun e w' => e = .returned (.int .u64 0) ∧ RKp 247 g s w at_ (uvar s at_ most).1 w' := hU
      clear hU
      have HU := Lib.hid hU'
      clear hU'
      have HN := Lib.hid hu
      clear hno hu
      generalize (uvar s at_ most).1 = er at *
      go_enter Try.func111, Try.ntmps111
      go_wp2_with (first | (go_at_call 109; refine HU.out.mono ?_; rintro e w2 ⟨rfl, hw2⟩) | (go_at_call 199; refine (rTakeNo g s at_ er (0 : Int) 0 rfl w2 hw2.1 HN.out).mono ?_; rintro e w3 ⟨rfl, rfl⟩; obtain ⟨e0, e1, e2, p0, p1, p2, -, -, -⟩ := hw2.1.open_))
      go_ret
      exact ⟨by rw [hr.out]; rfl, by rw [hr.out]; exact ⟨hw2.1.setAt at_ h1, Kp.set (P := fun k => k = g) hw2.2 (.inl rfl) _⟩⟩
  · have hr : Hid (rdT s at_ err most = (⟨#[]⟩, at_, err)) := by unfold Hid rdT; rw [if_neg he]
    have hU := rUint g s at_ err most w h
    unfold rdU at hU
    rw [if_neg he] at hU
    have hU' : Calls Try.prog 109 #[.pointer (some ⟨g, 0, none⟩), .int .u64 most] w fun e w' => e = .returned (.int .u64 0) ∧ RKp 247 g s w at_ err w' := hU
    clear hU
    have HU := Lib.hid hU'
    have HN := Lib.hid he
    clear hU' he
    go_enter Try.func111, Try.ntmps111
    go_wp2_with (first | (go_at_call 109; refine HU.out.mono ?_; rintro e w2 ⟨rfl, hw2⟩) | (go_at_call 199; refine (rTakeNo g s at_ err (0 : Int) 0 rfl w2 hw2.1 HN.out).mono ?_; rintro e w3 ⟨rfl, rfl⟩; obtain ⟨e0, e1, e2, p0, p1, p2, -, -, -⟩ := hw2.1.open_))
    go_ret
    exact ⟨by rw [hr.out]; rfl, by rw [hr.out]; exact ⟨hw2.1.setAt at_ h1, Kp.set (P := fun k => k = g) hw2.2 (.inl rfl) _⟩⟩
end Go.Proofs.Ytfdiedcleggfnaa
