/- DvvBytes, walked, on. -/
import Derived.Test.YtfdiedcleggfnaaLaw1
namespace Go.Proofs.Ytfdiedcleggfnaa
open Go.RowKit Go.Sort

theorem Own.shrink {w : World} {P : Nat → Prop} {e : TypeId} {sz n k c : Nat} {A : Option Addr} {cs ms : List Value} (h : Own w P e sz (.slice A (n + k) c) (n + k) (cs ++ ms)) (hl : cs.length = n * sz) (hk : 0 < k) :
    Own w P e sz (.slice A n c) n cs := by
  obtain ⟨g, rfl, hg, -⟩ := h.some_ (by omega)
  rcases h.1.2 with ⟨h1, _⟩ | ⟨g', cap, cur, hv, hb, hh, h1, h2, h3, h4⟩
  · cases h1
  · cases hv
    refine ⟨⟨hl, .inr ⟨g, c, cur, rfl, hb, hh, by omega, h2, h3, ?_⟩⟩, fun i hi => h.2 i hi⟩
    have h5 := congrArg (List.take (n * sz)) h4
    rw [List.take_take, Nat.min_eq_left (Nat.mul_le_mul_right _ (by omega)), List.take_append_of_le_length (by omega)] at h5
    rw [h5]
    exact List.take_of_length_le (by omega)
theorem dots_len (xs : List Dot) : ((xs.map dotV).flatten).length = xs.length * 2 := by
  rw [flat_length 2 _ (by intro x hx; obtain ⟨d, _, rfl⟩ := List.mem_map.1 hx; rfl)]; simp
theorem sibs_len (xs : List Sib) : ((xs.map sibV).flatten).length = xs.length * 4 := by
  rw [flat_length 4 _ (by intro x hx; obtain ⟨d, _, rfl⟩ := List.mem_map.1 hx; rfl)]; simp
theorem twinN (A B : Option Addr) (c d n m : Nat) (st : St) (hn' : st.seen.length = n) (hm' : st.sibs.length = m) (w : World) (hr : RdD w A st.seen) (hs : RdS w B st.sibs) (hn : n ≤ 8796093021952) (hm : m ≤ 3518437208780) :
    Calls Try.prog 22 #[.agg #[.slice A n c, .slice B m d]] w fun e w' => ∃ (A B : Option Addr) (c d : Nat), e = .returned (.agg #[.slice A n c, .slice B m d]) ∧
      RdD w' A st.seen ∧ RdS w' B st.sibs ∧ Below w.heap.size w w' := by
  subst hn' hm'
  exact (refTwin A B c d st w hr hs hn hm).mono fun e w' ⟨A', B', c', d', h1, h2, h3, h4⟩ => ⟨A', B', c', d', h1, own_rdD h2 hr.2, own_rdS h3 hs.2, h4⟩
theorem refEncN (A B : Option Addr) (c d n m : Nat) (st : St) (hn' : st.seen.length = n) (hm' : st.sibs.length = m) (w : World) (hr : RdD w A st.seen) (hs : RdS w B st.sibs) (hm : m ≤ 4611686018427387904) :
    Calls Try.prog 18 #[.agg #[.slice A n c, .slice B m d]] w fun e w' => e = .returned (.tuple #[.string (encR st).1, .int .i64 (encR st).2]) ∧ Below w.heap.size w w' := by
  subst hn' hm'; exact refEnc A B c d st w hr hs hm
theorem dvvEncN (A B : Option Addr) (c d n m : Nat) (st : St) (hn' : st.seen.length = n) (hm' : st.sibs.length = m) (w : World) (hr : RdD w A st.seen) (hs : RdS w B st.sibs) (hn : n ≤ 4611686018427387904) (hm : m ≤ 4611686018427387904)
    (hAb : ∀ a, A = some a → a.block < w.heap.size) :
    Calls Try.prog 19 #[.agg #[.slice A n c, .slice B m d]] w fun e w' => e = .returned (.tuple #[.string (encR st).1, .int .i64 (encR st).2]) ∧ Below w.heap.size w w' := by
  subst hn' hm'; exact dvvEnc A B c d st w hr hs hn hm hAb

/-- What a lent state is, at whatever world. -/
structure Lent (w : World) (A B : Option Addr) (c d : Nat) (n m : Nat) (st : St) (P1 P2 : Nat → Prop) : Prop where
  oA : Own w P1 50 2 (.slice A (n + 70) c) (n + 70) (((st.seen ++ marksD 70).map dotV).flatten)
  oB : Own w P2 145 4 (.slice B (m + 70) d) (m + 70) (((st.sibs ++ marksS 70).map sibV).flatten)
  wf1 : ∀ x ∈ st.seen, dotWf x
  wf2 : ∀ x ∈ st.sibs, sibWf x
  l1 : st.seen.length = n
  l2 : st.sibs.length = m
  apart : ∀ i, P1 i → ¬ P2 i
theorem Lent.below {w w' : World} {A B : Option Addr} {c d n m : Nat} {st : St} {P1 P2 : Nat → Prop} (h : Lent w A B c d n m st P1 P2) (hb : Below w.heap.size w w') : Lent w' A B c d n m st P1 P2 :=
  ⟨h.oA.below hb, h.oB.below hb, h.wf1, h.wf2, h.l1, h.l2, h.apart⟩
theorem Lent.rd {w : World} {A B : Option Addr} {c d n m : Nat} {st : St} {P1 P2 : Nat → Prop} (h : Lent w A B c d n m st P1 P2) : RdD w A st.seen ∧ RdS w B st.sibs := by
  obtain ⟨h1, h2, h3, h4, rfl, rfl, _⟩ := h
  exact ⟨(lent_rdD h3 h1).2, (lent_rdS h4 h2).2⟩
theorem Lent.lt {w : World} {A B : Option Addr} {c d n m : Nat} {st : St} {P1 P2 : Nat → Prop} (h : Lent w A B c d n m st P1 P2) : ∀ a, A = some a → a.block < w.heap.size := by
  intro a ha
  obtain ⟨g, e, _, hl⟩ := h.oA.some_ (by omega)
  rw [ha] at e; cases e; exact hl
theorem lentN (A B : Option Addr) (c d n m : Nat) (st : St) (hn' : st.seen.length = n) (hm' : st.sibs.length = m) (w : World) (hr : RdD w A st.seen) (hs : RdS w B st.sibs) (hn : n ≤ 8796093021952) (hm : m ≤ 3518437208780) :
    Calls Try.prog 17 #[.agg #[.slice A n c, .slice B m d]] w fun e w' => ∃ (A B : Option Addr) (c d : Nat) (P1 P2 : Nat → Prop), e = .returned (.agg #[.slice A n c, .slice B m d]) ∧
      Lent w' A B c d n m st P1 P2 ∧ (∀ i, P1 i ∨ P2 i → w.heap.size ≤ i ∧ i < w'.heap.size) ∧ Below w.heap.size w w' := by
  subst hn' hm'
  refine (lawLent A B c d st w hr hs hn hm).mono fun e w' ⟨A', B', c', d', h1, h2, h3, h4⟩ => ?_
  obtain ⟨P1, P2, k1, k2, k3, k4, k5, k6⟩ := own_split h2 h3 (by decide)
  exact ⟨A', B', c', d', P1, P2, h1, ⟨k1, k2, hr.2, hs.2, rfl, rfl, k3⟩, fun i hi => ⟨hi.elim (k4 i) (k5 i), k6 i hi⟩, h4⟩
theorem keptN (P1 P2 : Nat → Prop) (A B A1 B1 : Option Addr) (c d c1 d1 n m : Nat) (st : St) (w : World) (hL : Lent w A1 B1 c1 d1 n m st P1 P2) (hr : RdD w A st.seen) (hs : RdS w B st.sibs) (hn : n ≤ 8796093021952) (hm : m ≤ 3518437208780) :
    Calls Try.prog 20 #[.agg #[.slice A1 n c1, .slice B1 m d1], .agg #[.slice A n c, .slice B m d]] w fun e w' => e = .returned (.bool true) ∧ Below w.heap.size w w' := by
  obtain ⟨h1, h2, -, -, rfl, rfl, -⟩ := hL
  exact lawKept (fun k => P1 k ∨ P2 k) A B A1 B1 c d c1 d1 st w hr hs (h1.mono fun _ _ h => .inl h) (h2.mono fun _ _ h => .inr h) hn hm
theorem overN (P1 P2 : Nat → Prop) (A1 B1 : Option Addr) (c1 d1 n m : Nat) (st : St) (w : World) (hL : Lent w A1 B1 c1 d1 n m st P1 P2) (hP : ∀ k, P1 k ∨ P2 k → k < w.heap.size) (hn : n ≤ 8796093021952) (hm : m ≤ 3518437208780) :
    Calls Try.prog 21 #[.agg #[.slice A1 n c1, .slice B1 m d1]] w fun e w' => e = .returned (.tuple #[]) ∧ ∃ st' : St, st'.seen.length = n ∧ st'.sibs.length = m ∧ RdD w' A1 st'.seen ∧ RdS w' B1 st'.sibs ∧ Kp (fun k => P1 k ∨ P2 k) w w' := by
  obtain ⟨h1, h2, h3, h4, l1, l2, h5⟩ := hL
  rw [List.map_append, List.flatten_append] at h1 h2
  have h1' := h1.shrink (by rw [dots_len, l1]) (by omega)
  have h2' := h2.shrink (by rw [sibs_len, l2]) (by omega)
  refine (lawOver P1 P2 A1 B1 c1 d1 n m st.seen st.sibs w l1 l2 h3 h4 h1' h2' h5 hP (by omega) (by omega)).mono fun e w' ⟨e1, xs, ys, g1, g2, g3, g4, g5, g6, g7⟩ => ?_
  subst g1 g2
  exact ⟨e1, ⟨xs, ys⟩, rfl, rfl, own_rdD g5 g3, own_rdS g6 g4, g7⟩
end Go.Proofs.Ytfdiedcleggfnaa
