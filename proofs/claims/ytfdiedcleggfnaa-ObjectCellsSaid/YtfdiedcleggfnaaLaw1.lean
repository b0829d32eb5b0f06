/- DvvBytes, walked. -/
import Derived.Test.YtfdiedcleggfnaaKept
import Derived.Test.YtfdiedcleggfnaaEnc3
namespace Go.Proofs.Ytfdiedcleggfnaa
open Go.RowKit Go.Sort

/-- What an Encode answers. -/
def encR (st : St) : ByteArray × Int := if svalid st = true then (strB (encSt st), 0) else (⟨#[]⟩, 110)
theorem encR_tuple (st : St) : (if svalid st = true then Value.tuple #[.string (strB (encSt st)), .int .i64 0] else .tuple #[.string ⟨#[]⟩, .int .i64 110]) = .tuple #[.string (encR st).1, .int .i64 (encR st).2] := by
  unfold encR; split <;> rfl
theorem refEnc (A B : Option Addr) (c d : Nat) (st : St) (w : World) (hr : RdD w A st.seen) (hs : RdS w B st.sibs) (hm : st.sibs.length ≤ 4611686018427387904) :
    Calls Try.prog 18 #[.agg #[.slice A st.seen.length c, .slice B st.sibs.length d]] w fun e w' => e = .returned (.tuple #[.string (encR st).1, .int .i64 (encR st).2]) ∧ Below w.heap.size w w' :=
  (refEncode A B c d st w hr hs hm).mono fun e w' ⟨h1, h2⟩ => ⟨by rw [h1, encR_tuple], h2⟩
theorem dvvEnc (A B : Option Addr) (c d : Nat) (st : St) (w : World) (hr : RdD w A st.seen) (hs : RdS w B st.sibs) (hn : st.seen.length ≤ 4611686018427387904) (hm : st.sibs.length ≤ 4611686018427387904)
    (hAb : ∀ a, A = some a → a.block < w.heap.size) :
    Calls Try.prog 19 #[.agg #[.slice A st.seen.length c, .slice B st.sibs.length d]] w fun e w' => e = .returned (.tuple #[.string (encR st).1, .int .i64 (encR st).2]) ∧ Below w.heap.size w w' :=
  (dvvEncode A B c d st w hr hs hn hm hAb).mono fun e w' ⟨h1, h2⟩ => ⟨by rw [h1, encR_tuple], h2⟩
/-- What a Decode answers. -/
def decSt (s : ByteArray) : St := if decOk s = true then stR s else ⟨[], []⟩
def decEr (s : ByteArray) : Int := if decOk s = true then 0 else 110
def DecPost2 (s : ByteArray) (w : World) (e : Ending) (w' : World) : Prop :=
  ∃ (A B : Option Addr) (c d : Nat), e = .returned (.tuple #[.agg #[.slice A (decSt s).seen.length c, .slice B (decSt s).sibs.length d], .int .i64 (decEr s)]) ∧
    Own w' (fun k => w.heap.size ≤ k) 50 2 (.slice A (decSt s).seen.length c) (decSt s).seen.length (((decSt s).seen.map dotV).flatten) ∧
    Own w' (fun k => w.heap.size ≤ k) 145 4 (.slice B (decSt s).sibs.length d) (decSt s).sibs.length (((decSt s).sibs.map sibV).flatten) ∧ Below w.heap.size w w'
theorem decPost2 {s : ByteArray} {w w' : World} {e : Ending} (h : DecPost (decOk s) s w e w') : DecPost2 s w e w' := by
  obtain ⟨st, er, A, B, c, d, h1, h2, h3, h4, -, -, h7⟩ := h
  have e1 : st = decSt s ∧ er = decEr s := by
    unfold decSt decEr
    split at h1
    · rename_i h; rw [if_pos h, if_pos h]; exact h1
    · rename_i h; rw [if_neg h, if_neg h]; exact h1
  obtain ⟨rfl, rfl⟩ := e1
  exact ⟨A, B, c, d, h2, h3, h4, h7⟩
theorem decSt_wf (s : ByteArray) : (∀ d ∈ (decSt s).seen, dotWf d) ∧ (∀ x ∈ (decSt s).sibs, sibWf x) ∧ (decSt s).seen.length ≤ 64 ∧ (decSt s).sibs.length ≤ 64 := by
  unfold decSt
  split
  · exact stR_wf s
  · simp
theorem dvvDec (s : ByteArray) (w : World) (hs : s.size ≤ 140737488351232) : Calls Try.prog 24 #[.string s] w (DecPost2 s w) := (dvvDecode s w hs).mono fun _ _ h => decPost2 h
theorem refDec (s : ByteArray) (w : World) (hs : s.size ≤ 140737488351232) : Calls Try.prog 23 #[.string s] w (DecPost2 s w) :=
  (refDecode s w hs).mono fun _ _ h => decPost2 (by rw [decOk_eq]; exact h)
/-- Two rows of the call's own, of two types, apart from one another. -/
theorem own_split {w : World} {P Q : Nat → Prop} {e e' : TypeId} {sz sz' n n' : Nat} {u v : Value} {cs cs' : List Value} (h : Own w P e sz u n cs) (k : Own w Q e' sz' v n' cs') (hne : e ≠ e') :
    ∃ P1 P2 : Nat → Prop, Own w P1 e sz u n cs ∧ Own w P2 e' sz' v n' cs' ∧ (∀ i, P1 i → ¬ P2 i) ∧ (∀ i, P1 i → P i) ∧ (∀ i, P2 i → Q i) ∧ (∀ i, P1 i ∨ P2 i → i < w.heap.size) := by
  refine ⟨fun i => u.ownBlock = some i, fun i => v.ownBlock = some i, ⟨h.1, fun _ h => h⟩, ⟨k.1, fun _ h => h⟩, ?_, fun i hi => h.2 i hi, fun i hi => k.2 i hi, fun i hi => hi.elim (fun hi => h.lt hi) (fun hi => k.lt hi)⟩
  intro i h1 h2
  rcases h.1.2 with ⟨rfl, _⟩ | ⟨g, cap, cur, rfl, _, hh, _⟩
  · simp [Value.ownBlock] at h1
  · rcases k.1.2 with ⟨rfl, _⟩ | ⟨g', cap', cur', rfl, _, hh', _⟩
    · simp [Value.ownBlock] at h2
    · simp [Value.ownBlock] at h1 h2
      subst h1
      subst h2
      rw [hh] at hh'
      injection hh' with hh'; injection hh' with _ h3
      exact hne h3
end Go.Proofs.Ytfdiedcleggfnaa
