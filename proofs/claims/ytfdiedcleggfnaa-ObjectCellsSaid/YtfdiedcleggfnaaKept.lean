/- What the law does to lists, on: kept. -/
import Derived.Test.YtfdiedcleggfnaaLent
namespace Go.Proofs.Ytfdiedcleggfnaa
open Go.RowKit Go.Sort

theorem marksD_at (xs : List Dot) : ∀ (j k : Nat), k < j → dotAt (xs ++ marksD j) (xs.length + k) = ⟨7777, (k : Int)⟩
  | 0, k, h => by omega
  | j + 1, k, h => by
    by_cases e : k < j
    · have ih := marksD_at xs j k e
      unfold dotAt at ih ⊢
      rw [← ih, marksD, ← List.append_assoc]
      rw [List.getD_eq_getElem?_getD, List.getD_eq_getElem?_getD, List.getElem?_append_left (by simp [marksD_len]; omega)]
    · have : k = j := by omega
      subst this
      unfold dotAt
      rw [marksD, ← List.append_assoc, List.getD_eq_getElem?_getD, List.getElem?_append_right (by simp [marksD_len])]
      simp [marksD_len]
theorem marksS_at (xs : List Sib) : ∀ (j k : Nat), k < j → sibAt (xs ++ marksS j) (xs.length + k) = markS k
  | 0, k, h => by omega
  | j + 1, k, h => by
    by_cases e : k < j
    · have ih := marksS_at xs j k e
      unfold sibAt at ih ⊢
      rw [← ih, marksS, ← List.append_assoc]
      rw [List.getD_eq_getElem?_getD, List.getD_eq_getElem?_getD, List.getElem?_append_left (by simp [marksS_len]; omega)]
    · have : k = j := by omega
      subst this
      unfold sibAt
      rw [marksS, ← List.append_assoc, List.getD_eq_getElem?_getD, List.getElem?_append_right (by simp [marksS_len])]
      simp [marksS_len]
theorem marksD_wf (j : Nat) (hj : j ≤ 1000) : ∀ d ∈ marksD j, dotWf d := by
  induction j with
  | zero => simp [marksD]
  | succ j ih =>
    intro d hd
    rcases List.mem_append.1 hd with hd | hd
    · exact ih (by omega) d hd
    · rw [List.mem_singleton] at hd; subst hd; exact ⟨by simp, by simp, by simp only; omega, by simp only; omega⟩
theorem marksS_wf (j : Nat) (hj : j ≤ 1000) : ∀ d ∈ marksS j, sibWf d := by
  induction j with
  | zero => simp [marksS]
  | succ j ih =>
    intro d hd
    rcases List.mem_append.1 hd with hd | hd
    · exact ih (by omega) d hd
    · rw [List.mem_singleton] at hd; subst hd; exact ⟨⟨by simp [markS], by simp [markS], by simp only [markS]; omega, by simp only [markS]; omega⟩, show 4 ≤ 140737488351232 by decide⟩
theorem Rd.pre {w : World} {A : Option Addr} {sz : Nat} {vs us : List (List Value)} (h : Rd w A sz (vs ++ us)) : Rd w A sz vs := by
  intro k hk
  obtain ⟨b, o, e, hl, hc⟩ := h k (by simp; omega)
  refine ⟨b, o, e, hl, fun i v hv => hc i v ?_⟩
  rw [List.getD_eq_getElem?_getD] at hv ⊢
  rwa [List.getElem?_append_left hk]
theorem lent_rdD {w : World} {P : Nat → Prop} {A : Option Addr} {c : Nat} {xs : List Dot} (hw : ∀ x ∈ xs, dotWf x) (h : Own w P 50 2 (.slice A (xs.length + 70) c) (xs.length + 70) (((xs ++ marksD 70).map dotV).flatten)) :
    RdD w A (xs ++ marksD 70) ∧ RdD w A xs := by
  have h1 : RdD w A (xs ++ marksD 70) := by
    have hl : (xs ++ marksD 70).length = xs.length + 70 := by simp [marksD_len]
    refine own_rdD (P := P) (c := c) (by rw [hl]; exact h) ?_
    intro x hx
    rcases List.mem_append.1 hx with hx | hx
    · exact hw x hx
    · exact marksD_wf 70 (by omega) x hx
  exact ⟨h1, ⟨Rd.pre (us := (marksD 70).map dotV) (by rw [← List.map_append]; exact h1.1), hw⟩⟩
theorem lent_rdS {w : World} {P : Nat → Prop} {A : Option Addr} {c : Nat} {xs : List Sib} (hw : ∀ x ∈ xs, sibWf x) (h : Own w P 145 4 (.slice A (xs.length + 70) c) (xs.length + 70) (((xs ++ marksS 70).map sibV).flatten)) :
    RdS w A (xs ++ marksS 70) ∧ RdS w A xs := by
  have h1 : RdS w A (xs ++ marksS 70) := by
    have hl : (xs ++ marksS 70).length = xs.length + 70 := by simp [marksS_len]
    refine own_rdS (P := P) (c := c) (by rw [hl]; exact h) ?_
    intro x hx
    rcases List.mem_append.1 hx with hx | hx
    · exact hw x hx
    · exact marksS_wf 70 (by omega) x hx
  exact ⟨h1, ⟨Rd.pre (us := (marksS 70).map sibV) (by rw [← List.map_append]; exact h1.1), hw⟩⟩

set_option maxRecDepth 100000 in
set_option maxHeartbeats 2000000 in
theorem lawKept (P : Nat → Prop) (A B A1 B1 : Option Addr) (c d c1 d1 : Nat) (st : St) (w : World) (hr : RdD w A st.seen) (hs : RdS w B st.sibs)
    (hA : Own w P 50 2 (.slice A1 (st.seen.length + 70) c1) (st.seen.length + 70) (((st.seen ++ marksD 70).map dotV).flatten))
    (hB : Own w P 145 4 (.slice B1 (st.sibs.length + 70) d1) (st.sibs.length + 70) (((st.sibs ++ marksS 70).map sibV).flatten)) (hn : st.seen.length ≤ 8796093021952) (hm : st.sibs.length ≤ 3518437208780) :
    Calls Try.prog 20 #[.agg #[.slice A1 st.seen.length c1, .slice B1 st.sibs.length d1], .agg #[.slice A st.seen.length c, .slice B st.sibs.length d]] w
      fun e w' => e = .returned (.bool true) ∧ Below w.heap.size w w' := by
  have hB0 := Below.refl w.heap.size w
  obtain ⟨ra, rb⟩ := lent_rdD hr.2 hA
  obtain ⟨sa, sb⟩ := lent_rdS hs.2 hB
  have hc1 := hA.cap
  have hc2 := hB.cap
  have b0 := (Blk.new w #[.slice A1 st.seen.length c1, .slice B1 st.sibs.length d1] 25).alloc (.cells #[.slice A st.seen.length c, .slice B st.sibs.length d] 25)
  have b1 := Blk.new (w.alloc (.cells #[.slice A1 st.seen.length c1, .slice B1 st.sibs.length d1] 25)) #[.slice A st.seen.length c, .slice B st.sibs.length d] 25
  have hBW : Below w.heap.size w ((w.alloc (.cells #[.slice A1 st.seen.length c1, .slice B1 st.sibs.length d1] 25)).alloc (.cells #[.slice A st.seen.length c, .slice B st.sibs.length d] 25)) := (hB0.alloc (Nat.le_refl _) _).alloc (by simp) _
  simp only [World.size_alloc] at b1
  have HS := Lib.hid (ssame_self st)
  have p1 : (0 : Int) ≤ (st.seen.length : Int) + 70 := by omega
  have p2 : (st.seen.length : Int) + 70 ≤ (c1 : Int) := by omega
  have p3 : (0 : Int) ≤ (st.sibs.length : Int) + 70 := by omega
  have p4 : (st.sibs.length : Int) + 70 ≤ (d1 : Int) := by omega
  obtain ⟨y1, rfl, -, -⟩ := hA.some_ (by omega)
  obtain ⟨y2, rfl, -, -⟩ := hB.some_ (by omega)
  have hW := hBW.size
  go_enter Try.func20, Try.ntmps20
  go_wp2_with (go_at_call 25; (refine (refSame (some ⟨y1, 0, none⟩) (some ⟨y2, 0, none⟩) A B c1 d1 c d st st _ (rb.mono hBW) (sb.mono hBW) (hr.mono hBW) (hs.mono hBW) (by omega) (by omega) (by omega) (by omega)).mono ?_); rintro e w2 ⟨rfl, hb2⟩; rw [HS.out]; have hB2 := hBW.trans (hb2.mono hW); have K2 := Kp.of_below (P := fun _ => False) hb2; have b02 := b0.kp K2 id; have b12 := b1.kp K2 id; have e00 := b02.c 0; have e01 := b02.c 1; have e10 := b12.c 0; have e11 := b12.c 1; dsimp at e00; dsimp at e01; dsimp at e10; dsimp at e11)
  go_loopw [7] (fun i W => ∃ k : Nat, i = .int .i64 k ∧ k ≤ 70 ∧ W = w2) (fun i _ => 70 - (intOf i).toNat)
  case atStart => exact ⟨0, rfl, by omega, rfl⟩
  case round =>
    obtain ⟨k, rfl, hk, hWW⟩ := hrel
    subst hWW
    by_cases hlt : k < 70
    · have q1 : (0 : Int) ≤ (st.seen.length : Int) + (k : Int) := by omega
      have q2 : (st.seen.length : Int) + (k : Int) < (st.seen.length : Int) + 70 := by omega
      have q3 : (0 : Int) ≤ (st.sibs.length : Int) + (k : Int) := by omega
      have q4 : (st.sibs.length : Int) + (k : Int) < (st.sibs.length : Int) + 70 := by omega
      obtain ⟨b, o, e, hbl, g1, g2⟩ := (ra.mono hB2).at_ (k := st.seen.length + k) (by simp [marksD_len]; omega)
      cases e
      rw [marksD_at _ _ _ hlt] at g1 g2
      obtain ⟨b', o', e', hbl', g3, g4, g5, g6⟩ := (sa.mono hB2).at_ (k := st.sibs.length + k) (by simp [marksS_len]; omega)
      cases e'
      rw [marksS_at _ _ _ hlt] at g3 g4 g5 g6
      simp only [markS] at g3 g4 g5 g6
      simp only [Nat.zero_add] at g1 g2 g3 g4 g5 g6
      go_wp2
      go_roundw
      case rel => exact ⟨k + 1, by go_num, by omega, trivial⟩
      case measure => simp [intOf]; omega
    · obtain rfl : k = 70 := by omega
      go_wp2
      go_ret
      exact ⟨rfl, hB2⟩
end Go.Proofs.Ytfdiedcleggfnaa
