/- The object of a cell: the program's condition is the document's. -/
import Derived.Test.YtfdiedcleggfnaaObj4
namespace Go.Proofs.Ytfdiedcleggfnaa
open Go.RowKit Go.Sort

theorem enc_of_dec {V : ByteArray} (h : decOk V = true) : encR (decSt V) = (V, 0) := by
  have e : decSt V = stR V := if_pos h
  rw [decOk_eq] at h
  obtain ⟨_, h1, h2⟩ := of_decide_eq_true h
  rw [e]
  unfold encR
  rw [if_pos h1, h2]
theorem svalid_dec {V : ByteArray} (h : decOk V = true) : svalid (decSt V) = true := by
  have e : decSt V = stR V := if_pos h
  rw [decOk_eq] at h
  obtain ⟨_, h1, h2⟩ := of_decide_eq_true h
  rw [e]; exact h1
theorem abs_valid {st : St} (h : svalid st = true) : absB st = decide (st.seen.length = 0) := by
  unfold absB
  rw [decide_eq_decide]
  refine ⟨fun h => h.1, fun h0 => ⟨h0, ?_⟩⟩
  obtain ⟨_, _, h3⟩ := of_decide_eq_true h
  rcases Nat.eq_zero_or_pos st.sibs.length with h4 | h4
  · exact h4
  · have := h3 0 h4
    have h5 : st.seen = [] := List.length_eq_zero_iff.1 h0
    unfold sibOk at this
    rw [h5] at this
    have h6 := of_decide_eq_true this.2.1
    have h7 : vcount [] (sibAt st.sibs 0).d.a = 0 := by unfold vcount; split <;> rfl
    rw [h7] at h6
    omega
theorem packK_iff (K : ByteArray) (h : 2 ≤ K.size) : packK (cellK K) = K ↔ placeN (cellK K) = byteAt K 0 * 256 + byteAt K 1 := by
  have hn := placeN_lt (cellK K)
  unfold packK
  generalize hN : placeN (cellK K) = n at *
  have e1 : (cellK K).data.toList = K.data.toList.drop 2 := by
    unfold cellK
    rw [ByteArray.data_extract, Array.toList_extract]
    rw [List.extract_eq_take_drop, List.take_of_length_le]
    simp [← ByteArray.size_data]
  have e2 : (strB (fixB n) ++ cellK K = K) ↔ (fixB n ++ K.data.toList.drop 2 = K.data.toList) := by
    rw [← e1]
    constructor
    · intro h; have h9 := congrArg (fun b => b.data.toList) h; simpa [strB] using h9
    · intro h; apply ByteArray.ext; apply Array.toList_inj.1; rw [← h]; simp [strB]
  rw [e2]
  have hs : K.data.toList.length = K.size := Array.length_toList
  unfold byteAt
  generalize K.data.toList = l at *
  match l, hs with
  | [], hs => simp at hs; omega
  | [x], hs => simp at hs; omega
  | x :: y :: l, hs =>
    have hx := x.toNat_lt
    have hy := y.toNat_lt
    simp only [fixB, List.drop_succ_cons, List.drop_zero, List.cons_append, List.nil_append, List.cons.injEq, List.getD_cons_zero, List.getD_cons_succ, and_true]
    constructor
    · rintro ⟨a, b⟩
      have a' := congrArg UInt8.toNat a
      have b' := congrArg UInt8.toNat b
      simp only [UInt8.toNat_ofNat'] at a' b'
      omega
    · intro e
      constructor
      · apply UInt8.toNat_inj.1; simp only [UInt8.toNat_ofNat']; omega
      · apply UInt8.toNat_inj.1; simp only [UInt8.toNat_ofNat']; omega
/-- What the program asks of a cell. -/
def objOk (K V : ByteArray) : Bool := decide (2 ≤ K.size ∧ keyOk (cellK K) = true ∧ decOk V = true ∧ placeN (cellK K) = byteAt K 0 * 256 + byteAt K 1 ∧ (decSt V).seen.length ≠ 0 ∧ V.size ≤ 280)
theorem unpOk_eq (K V : ByteArray) : unpOk K V = objOk K V := by
  unfold unpOk objOk
  rw [decide_eq_decide]
  by_cases h2 : 2 ≤ K.size
  · by_cases hd : decOk V = true
    · have he := enc_of_dec hd
      have ha := abs_valid (svalid_dec hd)
      have hp := packK_iff K h2
      rw [ha, he, hp]
      unfold chkE
      rw [he]
      by_cases hk : keyOk (cellK K) = true
      · by_cases h280 : 280 < V.size
        · simp [h280, hk, hd]; try omega
        · simp [h280, hk, hd, h2]
          have h6 : V.size ≤ 280 := by omega
          generalize placeN (cellK K) = N
          by_cases q : N = byteAt K 0 * 256 + byteAt K 1
          · simp [q, h6]
          · simp [q]
      · simp [hk]
    · simp [hd]
  · simp [h2]
end Go.Proofs.Ytfdiedcleggfnaa
