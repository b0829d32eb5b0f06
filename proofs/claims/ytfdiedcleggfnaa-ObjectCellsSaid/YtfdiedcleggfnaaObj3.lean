/- An object's cell: the reference's Pack. -/
import Derived.Test.YtfdiedcleggfnaaObj2
namespace Go.Proofs.Ytfdiedcleggfnaa
open Go.RowKit Go.Sort
attribute [local go_sem] grow_cell

theorem retCT {fn : Func} {R : Ending → World → Prop} {a : Act} {W : World} {p q : Tmp} {ty t : TypeId} {g : Nat} {cs : Array Value} {E : Value} (fs : Array Field) (hf : fn.results = #[ResultVar.cell p ty, ResultVar.tmp q])
    (hp : a.tmps.getD p undef = .pointer (some ⟨g, 0, none⟩)) (hq : a.tmps.getD q undef = E) (hd : a.defers = []) (hb : Blk W g cs t)
    (hu : Try.prog.underlying ty = some (.struct fs)) (hi : (Try.prog.info? ty).map (·.size) = some cs.size)
    (hR : R (.returned (.tuple #[.agg cs, E])) W) : bodyPost Try.prog fn R .ret a W := by
  rw [Array.getD_eq_getD_getElem?] at hp hq
  have hl := run_loadVar_row (P := Try.prog) W g t ty cs (0, 0) _ hb hu rfl hi
  refine bodyPost_ret ?_ hd hR
  simp [results, hf, hp, hq, asAddr, hl]

/-- An object's cell, or what is wrong with it. -/
def packK (k : ByteArray) : ByteArray := strB (fixB (placeN k)) ++ k
def packR (k : ByteArray) (st : St) : ByteArray × ByteArray × Int :=
  if chkE k st = 0 then (if absB st = true then (⟨#[]⟩, ⟨#[]⟩, 110) else (packK k, (encR st).1, 0)) else (⟨#[]⟩, ⟨#[]⟩, chkE k st)
theorem chkE_ok {k : ByteArray} {st : St} (h : chkE k st = 0) : keyOk k = true ∧ (encR st).2 = 0 ∧ (encR st).1.size ≤ 280 := by
  unfold chkE at h
  split at h
  · rename_i h1
    split at h
    · rename_i h2
      split at h
      · omega
      · exact ⟨h1, h2, by omega⟩
    · omega
  · omega

set_option maxRecDepth 100000 in
set_option maxHeartbeats 2000000 in
theorem refPack (k : ByteArray) (A B : Option Addr) (c d : Nat) (st : St) (w : World) (hr : RdD w A st.seen) (hs : RdS w B st.sibs) (hn : st.seen.length ≤ 4611686018427387904) (hm : st.sibs.length ≤ 4611686018427387904) :
    Calls Try.prog 121 #[.agg #[.string k, .slice A st.seen.length c, .slice B st.sibs.length d]] w fun e w' => e = .returned (.tuple #[.agg #[.string (packR k st).1, .string (packR k st).2.1], .int .i64 (packR k st).2.2]) ∧ Below w.heap.size w w' := by
  obtain ⟨O, hO⟩ : ∃ O, O = #[Value.string k, .slice A st.seen.length c, .slice B st.sibs.length d] := ⟨_, rfl⟩
  obtain ⟨W2, hW2⟩ : ∃ W2, W2 = (w.alloc (.cells O 37)).alloc (.cells #[.string ⟨#[]⟩, .string ⟨#[]⟩] 57) := ⟨_, rfl⟩
  have hB2 : Below w.heap.size w W2 := by rw [hW2]; exact ((Below.refl _ _).alloc (Nat.le_refl _) _).alloc (by simp) _
  have bO : Blk W2 w.heap.size O 37 := by rw [hW2]; exact (Blk.new _ _ _).alloc _
  have bC : Blk W2 (w.heap.size + 1) #[.string ⟨#[]⟩, .string ⟨#[]⟩] 57 := by rw [hW2]; exact Blk.new' _ _ (by simp)
  subst hO
  have hr2 := hr.mono hB2
  have hs2 := hs.mono hB2
  have hCk := fun W r s => refCheck k A B c d st W r s hm
  have HCk := Lib.hid hCk
  clear hCk hr hs
  have c0 := bO.c 0
  have c1 := bO.c 1
  have c2 := bO.c 2
  have d0 := bC.c 0
  have d1 := bC.c 1
  have f0 := bC.f 0
  have f1 := bC.f 1
  dsimp at c0 c1 c2 d0 d1
  by_cases hc : chkE k st = 0
  · obtain ⟨hk, he2, he1⟩ := chkE_ok hc
    have HC := Lib.hid hc
    by_cases ha : absB st = true
    · have hP : packR k st = (⟨#[]⟩, ⟨#[]⟩, 110) := by unfold packR; rw [if_pos hc, if_pos ha]
      have ha' : decide (st.seen.length = 0 ∧ st.sibs.length = 0) = true := ha
      have HA := Lib.hid ha'
      rw [hP]
      clear hP ha ha' hc hk he2 he1
      go_enter Try.func121, Try.ntmps121
      go_upto_region 1 with (fail)
      rw [← hW2]
      clear hW2
      go_wp2_with (first | (go_at_call 115; refine (HCk.out _ hr2 hs2).mono ?_; rw [HC.out]; rintro e w3 ⟨rfl, hb3⟩; have K3 := Kp.of_below (P := fun _ => False) hb3; have bO3 := bO.kp K3 id; have bC3 := bC.kp K3 id; have g0 := bO3.c 0; have g1 := bO3.c 1; have g2 := bO3.c 2; dsimp at g0; dsimp at g1; dsimp at g2) | (go_at_call 211; refine (refAbsent k A B _ _ c d _ hn hm).mono ?_; rw [HA.out]; rintro e w4 ⟨rfl, hb4⟩; have bC4 := bC3.kp (Kp.of_below (P := fun _ => False) hb4) id; have e0 := bC4.c 0; have e1 := bC4.c 1; have h0 := bC4.f 0; have h1 := bC4.f 1; dsimp at e0; dsimp at e1))
      refine retCT _ (by rfl) (by rfl) (by rfl) (by rfl) ((bC4.set 0 _).set 1 _) Try.underlying57 (by kernel_rfl) ?_
      exact ⟨rfl, bl_set (bl_set (hB2.trans ((below_of hb3 hb4).mono hB2.size)) (by dsimp only; omega) _) (by dsimp only; omega) _⟩
    · have ha' : decide (st.seen.length = 0 ∧ st.sibs.length = 0) = false := by simpa [absB] using ha
      have HA := Lib.hid ha'
      have hP : packR k st = (packK k, (encR st).1, 0) := by unfold packR; rw [if_pos hc, if_neg ha]
      rw [hP]
      have hPl : placeR k = .tuple #[.int .i64 (placeN k), .int .i64 0] := if_pos hk
      have HPl := Lib.hid hPl
      have HER := Lib.hid he2
      have hEn := fun W r s => refEnc A B c d st W r s hm
      have HEn := Lib.hid hEn
      have hp := placeN_lt k
      have hk32 : k.size ≤ 32 := (of_decide_eq_true hk).2
      have hsz : (strB (fixB (placeN k))).size ≤ 10 := by rw [strB_size]; simp [fixB]
      have hPK : packK k = strB (fixB (placeN k)) ++ k := rfl
      rw [hPK]
      clear hP ha ha' hc hk hPl hEn hPK
      generalize placeN k = p at *
      generalize (encR st).1 = t at *
      generalize (encR st).2 = er at *
      clear he2
      go_enter Try.func121, Try.ntmps121
      go_upto_region 1 with (fail)
      rw [← hW2]
      clear hW2
      go_wp2_with (first | (go_at_call 115; refine (HCk.out _ hr2 hs2).mono ?_; rw [HC.out]; rintro e w3 ⟨rfl, hb3⟩; have K3 := Kp.of_below (P := fun _ => False) hb3; have bO3 := bO.kp K3 id; have bC3 := bC.kp K3 id; have g0 := bO3.c 0; have g1 := bO3.c 1; have g2 := bO3.c 2; dsimp at g0; dsimp at g1; dsimp at g2) | (go_at_call 211; refine (refAbsent k A B _ _ c d _ hn hm).mono ?_; rw [HA.out]; rintro e w4 ⟨rfl, hb4⟩; have K4 := Kp.of_below (P := fun _ => False) hb4; have bC4 := bC3.kp K4 id; have bO4 := bO3.kp K4 id; have q0 := bO4.c 0; have q1 := bO4.c 1; have q2 := bO4.c 2; dsimp at q0; dsimp at q1; dsimp at q2; have hB4 := hB2.trans ((below_of hb3 hb4).mono hB2.size); have hb24 := below_of hb3 hb4) | (go_at_call 127; refine (refPlace k _).mono ?_; rw [HPl.out]; rintro e w5 ⟨rfl, hb5⟩; have K5 := Kp.of_below (P := fun _ => False) hb5; have bC5 := bC4.kp K5 id; have bO5 := bO4.kp K5 id; have r0 := bO5.c 0; have r1 := bO5.c 1; have r2 := bO5.c 2; dsimp at r0; dsimp at r1; dsimp at r2; have hB5 := hB4.trans (hb5.mono hB4.size); have hb25 := below_of hb24 hb5) | (go_at_call 18; refine (HEn.out _ (hr2.mono hb25) (hs2.mono hb25)).mono ?_; rw [HER.out]; rintro e w6 ⟨rfl, hb6⟩; have K6 := Kp.of_below (P := fun _ => False) hb6; have bC6 := bC5.kp K6 id; have bO6 := bO5.kp K6 id; have t0 := bO6.c 0; dsimp at t0; have hB6 := hB5.trans (hb6.mono hB5.size); have hlt6 := bO6.lt))
      have hB := Below.refl w6.heap.size w6
      (refine wp_region_below_tail 8 (by kernel_rfl) (by kernel_rfl) ?_; simp only [List.take_succ_cons, List.take_zero, List.drop_succ_cons, List.drop_zero]; (repeat (first | go_big_quiet_step (exact Calls.regrown_of (refFixed2 p _ (by omega))) | quiet_step (exact Calls.regrown_of (refFixed2 p _ (by omega))))); refine wpQuiet_nil ?_; intro _ hw'; obtain ⟨⟨dq, osq⟩, hw''⟩ := hw'; subst hw'')
      generalize hg7 : grow (redrawn w6 dq) osq = w7
      have hb7 : Below w6.heap.size w6 w7 := by rw [← hg7]; exact below_regrown w6 dq osq
      clear hg7
      have bC7 := bC6.kp (Kp.of_below (P := fun _ => False) hb7) id
      have e0 := bC7.c 0
      have e1 := bC7.c 1
      have h0 := bC7.f 0
      have h1 := bC7.f 1
      dsimp at e0 e1
      go_wp2
      refine retCT _ (by rfl) (by rfl) (by rfl) (by rfl) ((bC7.set 0 _).set 1 _) Try.underlying57 (by kernel_rfl) ?_
      exact ⟨rfl, bl_set (bl_set (hB6.trans (hb7.mono hB6.size)) (by dsimp only; omega) _) (by dsimp only; omega) _⟩
  · have hP : packR k st = (⟨#[]⟩, ⟨#[]⟩, chkE k st) := if_neg hc
    rw [hP]
    clear hP
    generalize chkE k st = er at *
    have hc' : (er != 0) = true := by simpa using hc
    clear hc
    go_enter Try.func121, Try.ntmps121
    go_upto_region 1 with (fail)
    rw [← hW2]
    clear hW2
    go_wp2_with (go_at_call 115; refine (HCk.out _ hr2 hs2).mono ?_; rintro e w3 ⟨rfl, hb3⟩; have K3 := Kp.of_below (P := fun _ => False) hb3; have bC3 := bC.kp K3 id; have e0 := bC3.c 0; have e1 := bC3.c 1; have h0 := bC3.f 0; have h1 := bC3.f 1; dsimp at e0; dsimp at e1)
    refine retCT _ (by rfl) (by rfl) (by rfl) (by rfl) ((bC3.set 0 _).set 1 _) Try.underlying57 (by kernel_rfl) ?_
    exact ⟨rfl, bl_set (bl_set (hB2.trans (hb3.mono hB2.size)) (by dsimp only; omega) _) (by dsimp only; omega) _⟩
end Go.Proofs.Ytfdiedcleggfnaa
