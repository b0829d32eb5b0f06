/- The reference's states: Same. -/
import Derived.Test.YtfdiedcleggfnaaRef1
namespace Go.Proofs.Ytfdiedcleggfnaa
open Go.RowKit Go.Sort
attribute [local go_sem] grow_cell

theorem sibs_eq {xs ys : List Sib} (hl : xs.length = ys.length) (h : ∀ i, i < xs.length → sibAt xs i = sibAt ys i) : xs = ys := by
  apply List.ext_getElem hl
  intro i h1 h2
  have := h i h1
  unfold sibAt at this
  rwa [List.getD_eq_getElem?_getD, List.getD_eq_getElem?_getD, List.getElem?_eq_getElem h1, List.getElem?_eq_getElem h2] at this

/-- Are two states the same? -/
def ssame (s t : St) : Bool := decide (s.seen = t.seen ∧ s.sibs = t.sibs)

set_option maxRecDepth 100000 in
set_option maxHeartbeats 2000000 in
theorem refSame (A B A' B' : Option Addr) (c d c' d' : Nat) (s t : St) (w : World) (hr : RdD w A s.seen) (hs : RdS w B s.sibs) (hr' : RdD w A' t.seen) (hs' : RdS w B' t.sibs)
    (hn : s.seen.length ≤ 4611686018427387904) (hm : s.sibs.length ≤ 4611686018427387904) (hn' : t.seen.length ≤ 4611686018427387904) (hm' : t.sibs.length ≤ 4611686018427387904) :
    Calls Try.prog 25 #[.agg #[.slice A s.seen.length c, .slice B s.sibs.length d], .agg #[.slice A' t.seen.length c', .slice B' t.sibs.length d']] w fun e w' => e = .returned (.bool (ssame s t)) ∧ Below w.heap.size w w' := by
  have hB := Below.refl w.heap.size w
  by_cases hv : s.seen = t.seen
  · have hdv : decide (s.seen = t.seen) = true := decide_eq_true hv
    by_cases hl : s.sibs.length = t.sibs.length
    · have hdl : (s.sibs.length == t.sibs.length) = true := by simpa using hl
      have HV := Lib.hid hv
      have HL := Lib.hid hl
      clear hv hl
      go_enter Try.func25, Try.ntmps25
      go_wp2_with (go_at_call 113; (refine (refVecSame _ _ _ _ _ _ _ (hr.mono (by repeat first | exact hB | (refine bl_drewN ?_ _) | (refine bl_drew ?_) | (refine bl_grow ?_ (by first | omega | (simp; omega) | simp) _ _) | (refine bl_set ?_ (by first | omega | (simp; omega) | simp) _) | (refine bl_alloc ?_ (by first | omega | (simp; omega) | simp) _))) (hr'.mono (by repeat first | exact hB | (refine bl_drewN ?_ _) | (refine bl_drew ?_) | (refine bl_grow ?_ (by first | omega | (simp; omega) | simp) _ _) | (refine bl_set ?_ (by first | omega | (simp; omega) | simp) _) | (refine bl_alloc ?_ (by first | omega | (simp; omega) | simp) _))) hn hn').mono ?_); rintro e w2 ⟨rfl, hb2⟩; have k0 : w2.cell? ⟨w.heap.size, 0, none⟩ = some (.slice A s.seen.length c) := below_cell hb2 (by go_simp); have k1 : w2.cell? ⟨w.heap.size, 1, none⟩ = some (.slice B s.sibs.length d) := below_cell hb2 (by go_simp); have k2 : w2.cell? ⟨w.heap.size + 1, 0, none⟩ = some (.slice A' t.seen.length c') := below_cell hb2 (by go_simp); have k3 : w2.cell? ⟨w.heap.size + 1, 1, none⟩ = some (.slice B' t.sibs.length d') := below_cell hb2 (by go_simp))
      have hB1 : Below w.heap.size w w2 := ((hB.alloc (Nat.le_refl _) _).alloc (by simp) _).trans (hb2.mono (by simp; omega))
      go_loopw [5] (fun i W => ∃ p : Nat, i = .int .i64 p ∧ p ≤ s.sibs.length ∧ Hid (∀ i, i < p → sibAt s.sibs i = sibAt t.sibs i) ∧ Below w.heap.size w W ∧ W.cell? ⟨w.heap.size, 0, none⟩ = some (.slice A s.seen.length c) ∧ W.cell? ⟨w.heap.size, 1, none⟩ = some (.slice B s.sibs.length d) ∧ W.cell? ⟨w.heap.size + 1, 0, none⟩ = some (.slice A' t.seen.length c') ∧ W.cell? ⟨w.heap.size + 1, 1, none⟩ = some (.slice B' t.sibs.length d')) (fun i _ => s.sibs.length - (intOf i).toNat)
      case atStart => exact ⟨0, rfl, Nat.zero_le _, (fun i hi => by omega), hB1, k0, k1, k2, k3⟩
      case round =>
        obtain ⟨p, rfl, hp, hok, hB, e0, e1, e2, e3⟩ := hrel
        by_cases hlt : p < s.sibs.length
        · have hlt2 : p < t.sibs.length := by have := HL.out; omega
          obtain ⟨b, o, rfl, hb, c1, c2, c3, c4⟩ := (hs.mono hB).at_ hlt
          obtain ⟨b', o', rfl, hb', d1, d2, d3, d4⟩ := (hs'.mono hB).at_ hlt2
          by_cases h : sibAt s.sibs p = sibAt t.sibs p
          · have hok' : Hid (∀ i, i < p + 1 → sibAt s.sibs i = sibAt t.sibs i) := fun i hi => by
              by_cases e : i < p
              · exact hok i e
              · obtain rfl : i = p := by omega
                exact h
            have f1 : ((sibAt s.sibs p).d.a == (sibAt t.sibs p).d.a) = true := by simp [h]
            have f2 : ((sibAt s.sibs p).d.c == (sibAt t.sibs p).d.c) = true := by simp [h]
            have f3 : ((sibAt s.sibs p).g == (sibAt t.sibs p).g) = true := by simp [h]
            have f5 : ((sibAt s.sibs p).v.toList == (sibAt t.sibs p).v.toList) = true := by simp [h]
            clear h
            go_wp2
            go_quiet (fail)
            go_wp2
            go_roundw
            case rel => exact ⟨p + 1, by go_num, by omega, hok', by repeat first | exact hB | (refine bl_drewN ?_ _) | (refine bl_drew ?_) | (refine bl_grow ?_ (by first | omega | (simp; omega) | simp) _ _) | (refine bl_set ?_ (by first | omega | (simp; omega) | simp) _) | (refine bl_alloc ?_ (by first | omega | (simp; omega) | simp) _), by go_simp, by go_simp, by go_simp, by go_simp⟩
            case measure => simp [intOf]; omega
          · have hno : Hid (ssame s t = false) := decide_eq_false fun e => h (by rw [e.2])
            by_cases ha : (sibAt s.sibs p).d.a = (sibAt t.sibs p).d.a
            · have f1 : ((sibAt s.sibs p).d.a == (sibAt t.sibs p).d.a) = true := by simpa using ha
              by_cases hc : (sibAt s.sibs p).d.c = (sibAt t.sibs p).d.c
              · have f2 : ((sibAt s.sibs p).d.c == (sibAt t.sibs p).d.c) = true := by simpa using hc
                by_cases hg : (sibAt s.sibs p).g = (sibAt t.sibs p).g
                · have f3 : ((sibAt s.sibs p).g == (sibAt t.sibs p).g) = true := by simpa using hg
                  have hv : (sibAt s.sibs p).v.toList ≠ (sibAt t.sibs p).v.toList := fun e => h (by
                    have e' : (sibAt s.sibs p).v = (sibAt t.sibs p).v := by
                      rw [ByteArray.toList_eq, ByteArray.toList_eq] at e
                      exact ByteArray.ext (Array.toList_inj.1 e)
                    cases hx : sibAt s.sibs p; cases hy : sibAt t.sibs p
                    rename_i d1 g1 v1 d2 g2 v2
                    cases d1; cases d2
                    simp only [hx, hy] at ha hc hg e'
                    rw [ha, hc, hg, e'])
                  have f5 : ((sibAt s.sibs p).v.toList == (sibAt t.sibs p).v.toList) = false := by simpa using hv
                  clear h ha hc hg hv
                  go_wp2
                  go_quiet (fail)
                  go_wp2
                  go_ret
                  exact ⟨by rw [hno.out]; rfl, by repeat first | exact hB | (refine bl_drewN ?_ _) | (refine bl_drew ?_) | (refine bl_grow ?_ (by first | omega | (simp; omega) | simp) _ _) | (refine bl_set ?_ (by first | omega | (simp; omega) | simp) _) | (refine bl_alloc ?_ (by first | omega | (simp; omega) | simp) _)⟩
                · have f3 : ((sibAt s.sibs p).g == (sibAt t.sibs p).g) = false := by simpa using hg
                  clear h ha hc hg
                  go_wp2
                  go_quiet (fail)
                  go_wp2
                  go_ret
                  exact ⟨by rw [hno.out]; rfl, by repeat first | exact hB | (refine bl_drewN ?_ _) | (refine bl_drew ?_) | (refine bl_grow ?_ (by first | omega | (simp; omega) | simp) _ _) | (refine bl_set ?_ (by first | omega | (simp; omega) | simp) _) | (refine bl_alloc ?_ (by first | omega | (simp; omega) | simp) _)⟩
              · have f2 : ((sibAt s.sibs p).d.c == (sibAt t.sibs p).d.c) = false := by simpa using hc
                clear h ha hc
                go_wp2
                go_quiet (fail)
                go_wp2
                go_ret
                exact ⟨by rw [hno.out]; rfl, by repeat first | exact hB | (refine bl_drewN ?_ _) | (refine bl_drew ?_) | (refine bl_grow ?_ (by first | omega | (simp; omega) | simp) _ _) | (refine bl_set ?_ (by first | omega | (simp; omega) | simp) _) | (refine bl_alloc ?_ (by first | omega | (simp; omega) | simp) _)⟩
            · have f1 : ((sibAt s.sibs p).d.a == (sibAt t.sibs p).d.a) = false := by simpa using ha
              clear h ha
              go_wp2
              go_quiet (fail)
              go_wp2
              go_ret
              exact ⟨by rw [hno.out]; rfl, by repeat first | exact hB | (refine bl_drewN ?_ _) | (refine bl_drew ?_) | (refine bl_grow ?_ (by first | omega | (simp; omega) | simp) _ _) | (refine bl_set ?_ (by first | omega | (simp; omega) | simp) _) | (refine bl_alloc ?_ (by first | omega | (simp; omega) | simp) _)⟩
        · have hfin : Hid (ssame s t = true) := decide_eq_true ⟨HV.out, sibs_eq HL.out (fun i hi => hok i (by omega))⟩
          obtain rfl : p = s.sibs.length := by omega
          go_wp2
          go_ret
          exact ⟨by rw [hfin.out]; rfl, hB⟩
    · have hdl : (s.sibs.length == t.sibs.length) = false := by simpa using hl
      have hno : Hid (ssame s t = false) := decide_eq_false fun e => hl (by rw [e.2])
      clear hv hl
      go_enter Try.func25, Try.ntmps25
      go_wp2_with (go_at_call 113; (refine (refVecSame _ _ _ _ _ _ _ (hr.mono (by repeat first | exact hB | (refine bl_drewN ?_ _) | (refine bl_drew ?_) | (refine bl_grow ?_ (by first | omega | (simp; omega) | simp) _ _) | (refine bl_set ?_ (by first | omega | (simp; omega) | simp) _) | (refine bl_alloc ?_ (by first | omega | (simp; omega) | simp) _))) (hr'.mono (by repeat first | exact hB | (refine bl_drewN ?_ _) | (refine bl_drew ?_) | (refine bl_grow ?_ (by first | omega | (simp; omega) | simp) _ _) | (refine bl_set ?_ (by first | omega | (simp; omega) | simp) _) | (refine bl_alloc ?_ (by first | omega | (simp; omega) | simp) _))) hn hn').mono ?_); rintro e w2 ⟨rfl, hb2⟩; have k0 : w2.cell? ⟨w.heap.size, 0, none⟩ = some (.slice A s.seen.length c) := below_cell hb2 (by go_simp); have k1 : w2.cell? ⟨w.heap.size, 1, none⟩ = some (.slice B s.sibs.length d) := below_cell hb2 (by go_simp); have k2 : w2.cell? ⟨w.heap.size + 1, 0, none⟩ = some (.slice A' t.seen.length c') := below_cell hb2 (by go_simp); have k3 : w2.cell? ⟨w.heap.size + 1, 1, none⟩ = some (.slice B' t.sibs.length d') := below_cell hb2 (by go_simp))
      go_ret
      exact ⟨by rw [hno.out]; rfl, ((hB.alloc (Nat.le_refl _) _).alloc (by simp) _).trans (hb2.mono (by simp; omega))⟩
  · have hdv : decide (s.seen = t.seen) = false := decide_eq_false hv
    have hno : Hid (ssame s t = false) := decide_eq_false fun e => hv e.1
    clear hv
    go_enter Try.func25, Try.ntmps25
    go_wp2_with (go_at_call 113; (refine (refVecSame _ _ _ _ _ _ _ (hr.mono (by repeat first | exact hB | (refine bl_drewN ?_ _) | (refine bl_drew ?_) | (refine bl_grow ?_ (by first | omega | (simp; omega) | simp) _ _) | (refine bl_set ?_ (by first | omega | (simp; omega) | simp) _) | (refine bl_alloc ?_ (by first | omega | (simp; omega) | simp) _))) (hr'.mono (by repeat first | exact hB | (refine bl_drewN ?_ _) | (refine bl_drew ?_) | (refine bl_grow ?_ (by first | omega | (simp; omega) | simp) _ _) | (refine bl_set ?_ (by first | omega | (simp; omega) | simp) _) | (refine bl_alloc ?_ (by first | omega | (simp; omega) | simp) _))) hn hn').mono ?_); rintro e w2 ⟨rfl, hb2⟩)
    go_ret
    exact ⟨by rw [hno.out]; rfl, ((hB.alloc (Nat.le_refl _) _).alloc (by simp) _).trans (hb2.mono (by simp; omega))⟩
end Go.Proofs.Ytfdiedcleggfnaa
