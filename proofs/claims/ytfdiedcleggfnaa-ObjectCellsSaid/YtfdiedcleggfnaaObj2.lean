/- What is wrong with an object; the absent one; its cell: the reference's side. -/
import Derived.Test.YtfdiedcleggfnaaObj1
namespace Go.Proofs.Ytfdiedcleggfnaa
open Go.RowKit Go.Sort

/-- What is wrong with an object. -/
def chkE (k : ByteArray) (st : St) : Int := if keyOk k = true then (if (encR st).2 = 0 then (if 280 < (encR st).1.size then 82 else 0) else 110) else 130
theorem encR_er (st : St) : (encR st).2 = 0 ∨ (encR st).2 = 110 := by unfold encR; split <;> simp
theorem chkE_key {k : ByteArray} {st : St} (h : keyOk k = false) : chkE k st = 130 := by unfold chkE; rw [if_neg (by simp [h])]
theorem keyE_ok {k : ByteArray} (h : keyOk k = true) : keyE k = 0 := if_pos h
theorem keyE_bad {k : ByteArray} (h : keyOk k = false) : keyE k = 130 := if_neg (by simp [h])

set_option maxRecDepth 100000 in
set_option maxHeartbeats 2000000 in
theorem refCheck (k : ByteArray) (A B : Option Addr) (c d : Nat) (st : St) (w : World) (hr : RdD w A st.seen) (hs : RdS w B st.sibs) (hm : st.sibs.length ≤ 4611686018427387904) :
    Calls Try.prog 115 #[.agg #[.string k, .slice A st.seen.length c, .slice B st.sibs.length d]] w fun e w' => e = .returned (.int .i64 (chkE k st)) ∧ Below w.heap.size w w' := by
  have hBW := (Below.refl w.heap.size w).alloc (Nat.le_refl _) (.cells #[.string k, .slice A st.seen.length c, .slice B st.sibs.length d] 37)
  have hr1 := hr.mono hBW
  have hs1 := hs.mono hBW
  by_cases hk : keyOk k = true
  · have HE := Lib.hid (keyE_ok hk)
    have hC : chkE k st = (if (encR st).2 = 0 then (if 280 < (encR st).1.size then 82 else 0) else 110) := if_pos hk
    have hEn := fun W r s => refEnc A B c d st W r s hm
    have her := encR_er st
    rw [hC]
    clear hC hk hr hs
    generalize (encR st).1 = t at *
    generalize (encR st).2 = er at *
    have HEn := Lib.hid hEn
    clear hEn
    rcases her with rfl | rfl
    · by_cases h280 : 280 < t.size
      · rw [if_pos rfl, if_pos h280]
        go_enter Try.func115, Try.ntmps115
        go_wp2_with (first | (go_at_call 128; refine (refKey k _).mono ?_; rw [HE.out]; rintro e w1 ⟨rfl, rfl⟩) | (go_at_call 18; (refine (HEn.out _ hr1 hs1).mono ?_); rintro e w2 ⟨rfl, hb2⟩))
        go_ret
        exact ⟨rfl, hBW.trans (hb2.mono hBW.size)⟩
      · rw [if_pos rfl, if_neg h280]
        go_enter Try.func115, Try.ntmps115
        go_wp2_with (first | (go_at_call 128; refine (refKey k _).mono ?_; rw [HE.out]; rintro e w1 ⟨rfl, rfl⟩) | (go_at_call 18; (refine (HEn.out _ hr1 hs1).mono ?_); rintro e w2 ⟨rfl, hb2⟩))
        go_ret
        exact ⟨rfl, hBW.trans (hb2.mono hBW.size)⟩
    · rw [if_neg (by decide)]
      go_enter Try.func115, Try.ntmps115
      go_wp2_with (first | (go_at_call 128; refine (refKey k _).mono ?_; rw [HE.out]; rintro e w1 ⟨rfl, rfl⟩) | (go_at_call 18; (refine (HEn.out _ hr1 hs1).mono ?_); rintro e w2 ⟨rfl, hb2⟩))
      go_ret
      exact ⟨rfl, hBW.trans (hb2.mono hBW.size)⟩
  · have hk' : keyOk k = false := by simpa using hk
    have HE := Lib.hid (keyE_bad hk')
    rw [chkE_key hk']
    clear hk hk'
    go_enter Try.func115, Try.ntmps115
    go_wp2_with (go_at_call 128; refine (refKey k _).mono ?_; rw [HE.out]; rintro e w1 ⟨rfl, rfl⟩)
    go_ret
    exact ⟨rfl, hBW⟩

def absB (st : St) : Bool := decide (st.seen.length = 0 ∧ st.sibs.length = 0)
set_option maxRecDepth 100000 in
set_option maxHeartbeats 2000000 in
theorem refAbsent (k : ByteArray) (A B : Option Addr) (n m c d : Nat) (w : World) (hn : n ≤ 4611686018427387904) (hm : m ≤ 4611686018427387904) :
    Calls Try.prog 211 #[.agg #[.string k, .slice A n c, .slice B m d]] w fun e w' => e = .returned (.bool (decide (n = 0 ∧ m = 0))) ∧ Below w.heap.size w w' := by
  have hBW := (Below.refl w.heap.size w).alloc (Nat.le_refl _) (.cells #[.string k, .slice A n c, .slice B m d] 37)
  by_cases h1 : n = 0
  · by_cases h2 : m = 0
    · have e : decide (n = 0 ∧ m = 0) = true := decide_eq_true ⟨h1, h2⟩
      rw [e]; subst h1 h2; clear e
      go_enter Try.func211, Try.ntmps211
      go_wp2
      go_ret
      exact ⟨rfl, hBW⟩
    · have e : decide (n = 0 ∧ m = 0) = false := decide_eq_false fun h => h2 h.2
      have hd : ((m : Int) == 0) = false := by simp; exact h2
      rw [e]; subst h1; clear e h2
      go_enter Try.func211, Try.ntmps211
      go_wp2
      go_ret
      exact ⟨rfl, hBW⟩
  · have e : decide (n = 0 ∧ m = 0) = false := decide_eq_false fun h => h1 h.1
    have hd : ((n : Int) == 0) = false := by simp; exact h1
    rw [e]; clear e h1
    go_enter Try.func211, Try.ntmps211
    go_wp2
    go_ret
    exact ⟨rfl, hBW⟩
theorem objAbsent (A B : Option Addr) (n m c d : Nat) (w : World) :
    Calls Try.prog 126 #[.agg #[.slice A n c, .slice B m d]] w fun e w' => e = .returned (.bool (decide (n = 0))) ∧ Below w.heap.size w w' := by
  have hBW := (Below.refl w.heap.size w).alloc (Nat.le_refl _) (.cells #[.slice A n c, .slice B m d] 25)
  by_cases h1 : n = 0
  · have e : decide (n = 0) = true := decide_eq_true h1
    rw [e]; subst h1; clear e
    go_enter Try.func126, Try.ntmps126
    go_wp2
    go_ret
    exact ⟨rfl, hBW⟩
  · have e : decide (n = 0) = false := decide_eq_false h1
    have hd : ((n : Int) == 0) = false := by simp; exact h1
    rw [e]; clear e h1
    go_enter Try.func126, Try.ntmps126
    go_wp2
    go_ret
    exact ⟨rfl, hBW⟩
end Go.Proofs.Ytfdiedcleggfnaa
