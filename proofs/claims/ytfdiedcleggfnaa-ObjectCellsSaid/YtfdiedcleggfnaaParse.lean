/- What is read is what was written: the program's Decode answers as the reference's. (Plain Lean, no program.) -/
import Derived.Test.YtfdiedcleggfnaaDec2
namespace Go.Proofs.Ytfdiedcleggfnaa

/-- From a to b the bytes are bs. -/
def Pre (s : ByteArray) (a : Nat) (bs : List UInt8) (b : Nat) : Prop := s.data.toList.drop a = bs ++ s.data.toList.drop b
theorem Pre.trans {s : ByteArray} {a b c : Nat} {x y : List UInt8} (h : Pre s a x b) (k : Pre s b y c) : Pre s a (x ++ y) c := by
  unfold Pre at *; rw [h, k, List.append_assoc]
theorem Pre.one {s : ByteArray} {a : Nat} (h : a < s.size) : Pre s a [UInt8.ofNat (byteAt s a)] (a + 1) := by
  unfold Pre
  have hl : a < s.data.toList.length := by simpa using h
  rw [List.drop_eq_getElem_cons hl]
  have : s.data.toList[a] = UInt8.ofNat (byteAt s a) := by
    unfold byteAt; rw [List.getD_eq_getElem?_getD, List.getElem?_eq_getElem hl]; simp
  rw [this]; rfl

theorem uintB_lt {n : Nat} (h : n < 128) : uintB n = [UInt8.ofNat n] := by rw [uintB, if_pos h]
theorem uintB_ge {n : Nat} (h : ¬ n < 128) : uintB n = UInt8.ofNat (n % 128 + 128) :: uintB (n / 128) := by rw [uintB, if_neg h]

theorem uvarF_bytes (s : ByteArray) (at_ : Nat) (most : Int) : ∀ (f i acc : Nat), (uvarF s at_ most f i acc).1 = 0 →
    ∃ u, (uvarF s at_ most f i acc).2.1 = u * 2 ^ (7 * i) + acc ∧ (0 < i → u ≠ 0) ∧ Pre s (at_ + i) (uintB u) (at_ + (uvarF s at_ most f i acc).2.2)
  | 0, _, _, h => by simp [uvarF] at h
  | f + 1, i, acc, h => by
    unfold uvarF at h ⊢
    split
    · rename_i h1; rw [if_pos h1] at h; simp at h
    · rename_i h1
      rw [if_neg h1] at h
      split
      · rename_i h2; rw [if_pos h2] at h; simp at h
      · rename_i h2
        rw [if_neg h2] at h
        have hb := byteAt_lt s (at_ + i)
        have h0 : Pre s (at_ + i) [UInt8.ofNat (byteAt s (at_ + i))] (at_ + i + 1) := Pre.one (by omega)
        split
        · rename_i h3
          rw [if_pos h3] at h
          obtain ⟨u, hu1, hu2, hu3⟩ := uvarF_bytes s at_ most f _ _ h
          have hu := hu2 (by omega)
          refine ⟨u * 128 + byteAt s (at_ + i) % 128, ?_, by omega, ?_⟩
          · rw [hu1, show 7 * (i + 1) = 7 * i + 7 by omega, Nat.pow_add]
            have e : (2 : Nat) ^ 7 = 128 := by decide
            rw [e]
            generalize 2 ^ (7 * i) = p
            rw [Nat.add_mul]
            have : u * 128 * p = u * (p * 128) := by rw [Nat.mul_assoc, Nat.mul_comm 128 p]
            omega
          · rw [uintB_ge (by omega), show (u * 128 + byteAt s (at_ + i) % 128) % 128 + 128 = byteAt s (at_ + i) by omega, show (u * 128 + byteAt s (at_ + i) % 128) / 128 = u by omega]
            exact h0.trans hu3
        · rename_i h3
          rw [if_neg h3] at h
          split
          · rename_i h4; rw [if_pos h4] at h; simp at h
          · rename_i h4
            refine ⟨byteAt s (at_ + i), ?_, fun hi => ?_, ?_⟩
            · simp only; rw [Nat.mod_eq_of_lt (by omega)]
            · intro e; exact h4 (.inl ⟨e, hi⟩)
            · rw [uintB_lt (by omega)]; exact h0
theorem uvar_bytes {s : ByteArray} {at_ : Nat} {most : Int} (h : (uvar s at_ most).1 = 0) : Pre s at_ (uintB (uvar s at_ most).2.1) (at_ + (uvar s at_ most).2.2) := by
  obtain ⟨u, h1, -, h3⟩ := uvarF_bytes s at_ most 10 0 0 h
  have : (uvar s at_ most).2.1 = u := by unfold uvar; rw [h1]; simp
  rw [this]; exact h3

theorem rdU_ok {s : ByteArray} {at_ : Nat} {err most : Int} (h : (rdU s at_ err most).2.2 = 0) : err = 0 ∧ Pre s at_ (uintB (rdU s at_ err most).1) (rdU s at_ err most).2.1 := by
  unfold rdU at h ⊢
  split
  · rename_i he
    rw [if_pos he] at h
    exact ⟨he, uvar_bytes h⟩
  · rename_i he; rw [if_neg he] at h; exact absurd h he
theorem rdB_ok {s : ByteArray} {at_ : Nat} {err : Int} (h : (rdB s at_ err).2.2 = 0) : err = 0 ∧ Pre s at_ [UInt8.ofNat (rdB s at_ err).1] (rdB s at_ err).2.1 := by
  unfold rdB at h ⊢
  split
  · rename_i he
    rw [if_pos he] at h
    split
    · rename_i h1; exact ⟨he, Pre.one (by omega)⟩
    · rename_i h1; rw [if_neg h1] at h; simp at h
  · rename_i he; rw [if_neg he] at h; exact absurd h he
theorem pre_extract {s : ByteArray} {a n : Nat} (h : a + n ≤ s.size) : Pre s a (s.extract a (a + n)).data.toList (a + n) ∧ (s.extract a (a + n)).size = n := by
  have e : (s.extract a (a + n)).data.toList = (s.data.toList.drop a).take n := by
    simp [ByteArray.data_extract, List.take_drop]
  refine ⟨?_, by simp; omega⟩
  unfold Pre
  rw [e, ← List.drop_drop, List.take_append_drop]
theorem rdT_ok {s : ByteArray} {at_ : Nat} {err most : Int} (h : (rdT s at_ err most).2.2 = 0) :
    err = 0 ∧ Pre s at_ (uintB (rdT s at_ err most).1.size ++ (rdT s at_ err most).1.data.toList) (rdT s at_ err most).2.1 := by
  unfold rdT at h ⊢
  split
  · rename_i he
    rw [if_pos he] at h
    split
    · rename_i hu
      rw [if_pos hu] at h
      split
      · rename_i h1
        obtain ⟨h2, h3⟩ := pre_extract h1
        refine ⟨he, ?_⟩
        simp only
        rw [h3]
        exact (uvar_bytes hu).trans h2
      · rename_i h1; rw [if_neg h1] at h; simp at h
    · rename_i hu; rw [if_neg hu] at h; exact absurd h hu
  · rename_i he; rw [if_neg he] at h; exact absurd h he

theorem dotStep_ok {s : ByteArray} {x : List Dot × Nat × Int} (h : (dotStep s x).2.2 = 0) :
    x.2.2 = 0 ∧ ∃ d, (dotStep s x).1 = x.1 ++ [d] ∧ Pre s x.2.1 (encDot d) (dotStep s x).2.1 := by
  unfold dotStep at h ⊢
  obtain ⟨h1, h2⟩ := rdU_ok h
  obtain ⟨h3, h4⟩ := rdU_ok h1
  exact ⟨h3, _, rfl, h4.trans h2⟩
theorem dotIter_ok {s : ByteArray} {y : Nat × Int} : ∀ (k : Nat), (dotIter s ([], y) k).2.2 = 0 → y.2 = 0 ∧ Pre s y.1 (((dotIter s ([], y) k).1.map encDot).flatten) (dotIter s ([], y) k).2.1
  | 0, h => ⟨h, by simp [dotIter, Pre]⟩
  | k + 1, h => by
    rw [dotIter] at h ⊢
    obtain ⟨h1, d, h2, h3⟩ := dotStep_ok h
    obtain ⟨h4, h5⟩ := dotIter_ok k h1
    refine ⟨h4, ?_⟩
    rw [h2]
    simpa using h5.trans h3
theorem vecR_ok {s : ByteArray} {at_ : Nat} {err : Int} (h : (vecR s at_ err).2.2 = 0) : err = 0 ∧ Pre s at_ (encVec (vecR s at_ err).1) (vecR s at_ err).2.1 := by
  have hl := dotIter_len s ([], (rdU s at_ err 64).2) (rdU s at_ err 64).1
  unfold vecR at h ⊢
  split
  · rename_i h0
    rw [if_pos h0] at h
    split
    · obtain ⟨h1, h2⟩ := dotIter_ok _ h0
      obtain ⟨h3, h4⟩ := rdU_ok h1
      refine ⟨h3, ?_⟩
      unfold encVec
      rw [hl]
      simpa using h4.trans h2
    · rename_i h1; rw [if_neg h1] at h; simp at h
  · rename_i h0; rw [if_neg h0] at h; exact absurd h h0

/-- A sibling's bytes with the third byte as it was. -/
def rawSib (z : Sib × Nat) : List UInt8 := encDot z.1.d ++ (UInt8.ofNat z.2 :: (uintB z.1.v.size ++ z.1.v.data.toList))
theorem sibStep_ok {s : ByteArray} {x : List (Sib × Nat) × Nat × Int} (h : (sibStep s x).2.2 = 0) :
    x.2.2 = 0 ∧ ∃ z : Sib × Nat, (sibStep s x).1 = x.1 ++ [z] ∧ z.1.g = ((z.2 : Int) == 1) ∧ z.2 ≤ 255 ∧ Pre s x.2.1 (rawSib z) (sibStep s x).2.1 := by
  rw [sibStep_eq rfl rfl rfl rfl] at h ⊢
  obtain ⟨h1, h2⟩ := rdT_ok h
  obtain ⟨h3, h4⟩ := rdB_ok h1
  obtain ⟨h5, h6⟩ := rdU_ok h3
  obtain ⟨h7, h8⟩ := rdU_ok h5
  refine ⟨h7, _, rfl, rfl, rdB_le, ?_⟩
  have := ((h8.trans h6).trans h4).trans h2
  simpa [rawSib, sibOf, encDot] using this
theorem sibIter_ok {s : ByteArray} {y : Nat × Int} : ∀ (k : Nat), (sibIter s ([], y) k).2.2 = 0 →
    y.2 = 0 ∧ Pre s y.1 (((sibIter s ([], y) k).1.map rawSib).flatten) (sibIter s ([], y) k).2.1 ∧ ∀ z ∈ (sibIter s ([], y) k).1, z.1.g = ((z.2 : Int) == 1) ∧ z.2 ≤ 255
  | 0, h => ⟨h, by simp [sibIter, Pre], by simp [sibIter]⟩
  | k + 1, h => by
    rw [sibIter] at h ⊢
    obtain ⟨h1, z, h2, hg, hz, h3⟩ := sibStep_ok h
    obtain ⟨h4, h5, h6⟩ := sibIter_ok k h1
    rw [h2]
    refine ⟨h4, by simpa using h5.trans h3, ?_⟩
    intro x hx
    rcases List.mem_append.1 hx with hx | hx
    · exact h6 x hx
    · rw [List.mem_singleton] at hx; subst hx; exact ⟨hg, hz⟩

theorem flat_eq {α : Type} (f g : α → List UInt8) : ∀ (xs : List α), (∀ x ∈ xs, (f x).length = (g x).length) → ((xs.map f).flatten = (xs.map g).flatten ↔ ∀ x ∈ xs, f x = g x)
  | [], _ => by simp
  | x :: xs, h => by
    have ih := flat_eq f g xs (fun y hy => h y (by simp [hy]))
    simp only [List.map_cons, List.flatten_cons]
    constructor
    · intro e
      obtain ⟨e1, e2⟩ := List.append_inj e (h x (by simp))
      intro y hy
      rcases List.mem_cons.1 hy with rfl | hy
      · exact e1
      · exact ih.1 e2 y hy
    · intro e
      rw [e x (by simp), ih.2 (fun y hy => e y (by simp [hy]))]

theorem decOk_eq (s : ByteArray) : decOk s = decOk2 s := by
  unfold decOk decOk2
  rw [decide_eq_decide]
  by_cases he : rdEnd s (stX s).2.1 (stX s).2.2 = 0
  case neg =>
    constructor
    · rintro ⟨-, h, -⟩; exact absurd h he
    · rintro ⟨h, -⟩; exact absurd h he
  by_cases hv : svalid (stR s) = true
  case neg =>
    constructor
    · rintro ⟨-, -, h⟩; exact absurd h hv
    · rintro ⟨-, h, -⟩; exact absurd h hv
  have hx0 : (stX s).2.2 = 0 ∧ s.size ≤ (stX s).2.1 := by
    unfold rdEnd at he
    split at he
    · simp at he
    · rename_i h; exact ⟨he, by omega⟩
  obtain ⟨h1, h2, h3⟩ := sibIter_ok (stN s).1 hx0.1
  obtain ⟨h4, h5⟩ := rdU_ok (show (stN s).2.2 = 0 from h1)
  obtain ⟨-, h6⟩ := vecR_ok h4
  have hall := (h6.trans h5).trans h2
  have hlen := sibIter_len s ([], (stN s).2) (stN s).1
  have hs : s.data.toList = encVec (stR s).seen ++ (uintB (stR s).sibs.length ++ ((stX s).1.map rawSib).flatten) := by
    unfold Pre at hall
    have hd : s.data.toList.drop (stX s).2.1 = [] := List.drop_eq_nil_of_le (by simpa using hx0.2)
    have hl : (stR s).sibs.length = (stN s).1 := by
      show ((sibIter s ([], (stN s).2) (stN s).1).1.map Prod.fst).length = _
      rw [List.length_map, hlen]; simp
    rw [hl]
    have e : (sibIter s ([], (stN s).2) (stN s).1) = stX s := rfl
    rw [e, hd] at hall
    have e2 : (rdU s (vecR s 0 0).2.1 (vecR s 0 0).2.2 64) = stN s := rfl
    rw [e2] at hall
    have e3 : (stR s).seen = (vecR s 0 0).1 := rfl
    rw [e3]
    simpa using hall
  have hbytes : strB (encSt (stR s)) = s ↔ ∀ z ∈ (stX s).1, encSib z.1 = rawSib z := by
    have e : (stR s).sibs.map encSib = (stX s).1.map (fun z => encSib z.1) := by
      show ((stX s).1.map Prod.fst).map encSib = _
      rw [List.map_map]; rfl
    rw [← flat_eq (fun z : Sib × Nat => encSib z.1) rawSib (stX s).1 (fun z _ => by simp [encSib, rawSib])]
    constructor
    · intro h
      have h' : encSt (stR s) = s.data.toList := by
        have := congrArg (fun b : ByteArray => b.data.toList) h
        simpa [strB] using this
      rw [hs] at h'
      unfold encSt at h'
      rw [e] at h'
      exact List.append_cancel_left (List.append_cancel_left h')
    · intro h
      have h' : encSt (stR s) = s.data.toList := by
        rw [hs]; unfold encSt; rw [e, h]
      rw [h']; exact strB_data s
  rw [hbytes]
  constructor
  · rintro ⟨h, -, -⟩
    refine ⟨he, hv, fun z hz => ?_⟩
    have hz1 := h z hz
    have hg := (h3 z hz).1
    unfold encSib rawSib
    have : (if z.1.g then (1 : UInt8) else 0) = UInt8.ofNat z.2 := by
      rw [hg]
      have : z.2 = 0 ∨ z.2 = 1 := by omega
      rcases this with e | e <;> simp [e]
    rw [this]
  · rintro ⟨-, -, h⟩
    refine ⟨fun z hz => ?_, he, hv⟩
    have hz1 := h z hz
    have hz2 := (h3 z hz).2
    unfold encSib rawSib at hz1
    have h4 := List.append_cancel_left hz1
    injection h4 with h5 _
    have h6 := congrArg UInt8.toNat h5
    have h7 : (UInt8.ofNat z.2).toNat = z.2 := by simp; omega
    rw [h7] at h6
    split at h6 <;> simp at h6 <;> omega
end Go.Proofs.Ytfdiedcleggfnaa
