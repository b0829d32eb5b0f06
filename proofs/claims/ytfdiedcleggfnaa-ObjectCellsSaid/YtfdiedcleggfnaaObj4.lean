/- The object of a cell: the reference's Unpack. -/
import Derived.Test.YtfdiedcleggfnaaObj3
namespace Go.Proofs.Ytfdiedcleggfnaa
open Go.RowKit Go.Sort

/-- A cell's key behind the segment. -/
def cellK (K : ByteArray) : ByteArray := K.extract 2 K.size
/-- Is a cell an object's? -/
def unpOk (K V : ByteArray) : Bool := decide (2 ≤ K.size ∧ decOk V = true ∧ chkE (cellK K) (decSt V) = 0 ∧ absB (decSt V) = false ∧ packK (cellK K) = K ∧ (encR (decSt V)).1 = V)
def unpK (K V : ByteArray) : ByteArray := if unpOk K V = true then cellK K else ⟨#[]⟩
def unpSt (K V : ByteArray) : St := if unpOk K V = true then decSt V else ⟨[], []⟩
def unpE (K V : ByteArray) : Int := if unpOk K V = true then 0 else 4
/-- What an Unpack answers: in memory of its own. -/
def UnpPost (K V : ByteArray) (w : World) (e : Ending) (w' : World) : Prop :=
  ∃ (A B : Option Addr) (c d : Nat), e = .returned (.tuple #[.agg #[.string (unpK K V), .slice A (unpSt K V).seen.length c, .slice B (unpSt K V).sibs.length d], .int .i64 (unpE K V)]) ∧
    Own w' (fun k => w.heap.size ≤ k) 50 2 (.slice A (unpSt K V).seen.length c) (unpSt K V).seen.length (((unpSt K V).seen.map dotV).flatten) ∧
    Own w' (fun k => w.heap.size ≤ k) 145 4 (.slice B (unpSt K V).sibs.length d) (unpSt K V).sibs.length (((unpSt K V).sibs.map sibV).flatten) ∧ Below w.heap.size w w'
theorem unp_no {K V : ByteArray} (h : unpOk K V = false) : unpK K V = ⟨#[]⟩ ∧ unpSt K V = ⟨[], []⟩ ∧ unpE K V = 4 := by
  unfold unpK unpSt unpE; simp [h]
theorem unp_yes {K V : ByteArray} (h : unpOk K V = true) : unpK K V = cellK K ∧ unpSt K V = decSt V ∧ unpE K V = 0 := by
  unfold unpK unpSt unpE; simp [h]
theorem unpPost_no {K V : ByteArray} {w w' : World} (h : unpOk K V = false) (hB : Below w.heap.size w w') :
    UnpPost K V w (.returned (.tuple #[.agg #[.string ⟨#[]⟩, .slice none 0 0, .slice none 0 0], .int .i64 4])) w' := by
  obtain ⟨h1, h2, h3⟩ := unp_no h
  unfold UnpPost
  rw [h1, h2, h3]
  exact ⟨none, none, 0, 0, rfl, Own.nil _ _ _ _, Own.nil _ _ _ _, hB⟩

theorem toList_ne {a b : ByteArray} (h : a ≠ b) : ¬ a.toList = b.toList := by
  intro e
  rw [ByteArray.toList_eq, ByteArray.toList_eq] at e
  exact h (ByteArray.ext (Array.toList_inj.1 e))
theorem Blk.drew {w : World} {k : Nat} {cs : Array Value} {T : TypeId} (h : Blk w k cs T) : Blk w.drew k cs T := h
theorem packR_iff (k : ByteArray) (st : St) (K V : ByteArray) (hok : decOk V = true) : (decOk V = true ∧ chkE k st = 0 ∧ absB st = false ∧ packK k = K ∧ (encR st).1 = V) ↔ ((packR k st).2.2 = 0 ∧ (packR k st).1 = K ∧ (packR k st).2.1 = V) := by
  unfold packR
  by_cases hc : chkE k st = 0
  · rw [if_pos hc]
    by_cases ha : absB st = true
    · rw [if_pos ha]; simp [ha]
    · rw [if_neg ha]; simp at ha; simp [hok, hc, ha]
  · rw [if_neg hc]; simp [hc]
theorem decSt_len (V : ByteArray) : (decSt V).seen.length ≤ 4611686018427387904 ∧ (decSt V).sibs.length ≤ 4611686018427387904 := by
  have h := decSt_wf V
  omega

set_option maxRecDepth 100000 in
set_option maxHeartbeats 2000000 in
theorem refUnpack (K V : ByteArray) (w : World) (hK : K.size ≤ 140737488351232) (hV : V.size ≤ 140737488351232) :
    Calls Try.prog 38 #[.agg #[.string K, .string V]] w (UnpPost K V w) := by
  obtain ⟨W2, hW2⟩ : ∃ W2, W2 = (w.alloc (.cells #[.string K, .string V] 57)).alloc (.cells #[.string ⟨#[]⟩, .slice none 0 0, .slice none 0 0] 37) := ⟨_, rfl⟩
  have hB2 : Below w.heap.size w W2 := by rw [hW2]; exact ((Below.refl _ _).alloc (Nat.le_refl _) _).alloc (by simp) _
  have bI : Blk W2 w.heap.size #[.string K, .string V] 57 := by rw [hW2]; exact (Blk.new _ _ _).alloc _
  have bO : Blk W2 (w.heap.size + 1) #[.string ⟨#[]⟩, .slice none 0 0, .slice none 0 0] 37 := by rw [hW2]; exact Blk.new' _ _ (by simp)
  have c0 := bI.c 0
  have c1 := bI.c 1
  have d0 := bO.c 0
  have d1 := bO.c 1
  have d2 := bO.c 2
  have f0 := bO.f 0
  have f1 := bO.f 1
  have f2 := bO.f 2
  dsimp at c0 c1 d0 d1 d2
  by_cases h2 : 2 ≤ K.size
  · have hD := refDec V
    unfold DecPost2 at hD
    have hdw := decSt_wf V
    have hOK : unpOk K V = decide (decOk V = true ∧ chkE (cellK K) (decSt V) = 0 ∧ absB (decSt V) = false ∧ packK (cellK K) = K ∧ (encR (decSt V)).1 = V) := by
      unfold unpOk; rw [decide_eq_decide]; exact ⟨fun h => h.2, fun h => ⟨h2, h⟩⟩
    have hEr : decEr V = if decOk V = true then 0 else 110 := rfl
    have HD := Lib.hid hD
    have HOK := Lib.hid hOK
    have HER := Lib.hid hEr
    clear hD hOK hEr
    by_cases hok : decOk V = true
    · have hE : decEr V = 0 := by rw [HER.out, if_pos hok]
      have hOK2 : unpOk K V = decide ((packR (cellK K) (decSt V)).2.2 = 0 ∧ (packR (cellK K) (decSt V)).1 = K ∧ (packR (cellK K) (decSt V)).2.1 = V) := by
        rw [HOK.out, decide_eq_decide]; exact packR_iff (cellK K) (decSt V) K V hok
      have hPk := fun (A B : Option Addr) (c d : Nat) (W : World) (hr : RdD W A (decSt V).seen) (hs : RdS W B (decSt V).sibs) => refPack (cellK K) A B c d (decSt V) W hr hs (decSt_len V).1 (decSt_len V).2
      have HP := Lib.hid hPk
      have HE := Lib.hid hE
      have HOK2 := Lib.hid hOK2
      have hdw1 := hdw.1
      have hdw2 := hdw.2.1
      clear hPk hE hOK2 HOK HER hdw
      generalize packR (cellK K) (decSt V) = pk at *
      obtain ⟨p1, p2, pe⟩ := pk
      dsimp only at HOK2 HP
      by_cases hpe : pe = 0
      · subst hpe
        by_cases h1 : p1 = K
        · by_cases h2 : p2 = V
          · have hyes : unpOk K V = true := by rw [HOK2.out]; exact decide_eq_true ⟨rfl, h1, h2⟩
            have HY := Lib.hid hyes
            have t1 : p1.toList = K.toList := congrArg _ h1
            have t2 : p2.toList = V.toList := congrArg _ h2
            clear hyes hok h1 h2
            go_enter Try.func38, Try.ntmps38
            go_upto_region 1 with (fail)
            rw [← hW2]
            clear hW2
            go_wp2_with (go_at_call 23; refine (HD.out _ hV).mono ?_; rw [HE.out]; rintro e w3 ⟨A, B, c, d, rfl, oA, oB, hb3⟩; have K3 := Kp.of_below (P := fun _ => False) hb3; have bI3 := bI.kp K3 id; have bO3 := bO.kp K3 id; have g0 := bI3.c 0; have g1 := bI3.c 1; dsimp at g0; dsimp at g1; have e0 := bO3.c 0; have e1 := bO3.c 1; have e2 := bO3.c 2; dsimp at e0; dsimp at e1; dsimp at e2; have hlt := bI3.lt; have hlt2 := bO3.lt; have hB3 := hB2.trans (hb3.mono hB2.size); have t0 := bO3.f 0; have t1 := bO3.f 1; have t2 := bO3.f 2)
            go_region
            go_wp2_with (go_at_call 121; (obtain ⟨w5, hw5⟩ : ∃ W, W = ((w3.alloc (.cells #[.slice A (decSt V).seen.length c, .slice B (decSt V).sibs.length d] 25)).alloc (.cells #[.string (K.extract 2 K.size), .slice A (decSt V).seen.length c, .slice B (decSt V).sibs.length d] 37)).drew := ⟨_, rfl⟩; rw [← hw5]; have hb5 : Below w3.heap.size w3 w5 := (by subst hw5; exact (((Below.refl _ _).alloc (Nat.le_refl _) _).alloc (by simp) _).drew); have bQ5 : Blk w5 (w3.heap.size + 1) #[.string (K.extract 2 K.size), .slice A (decSt V).seen.length c, .slice B (decSt V).sibs.length d] 37 := (by subst hw5; refine Blk.drew (Blk.new' _ _ ?_); exact World.size_alloc _ _); clear hw5; refine (HP.out A B c d _ ((own_rdD oA hdw1).mono hb5) ((own_rdS oB hdw2).mono hb5)).mono ?_; rintro e w6 ⟨rfl, hb6⟩; have K5 := Kp.of_below (P := fun _ => False) hb5; have K6 := Kp.of_below (P := fun _ => False) hb6; have bI6 := (bI3.kp K5 id).kp K6 id; have bO6 := (bO3.kp K5 id).kp K6 id; have bQ6 := bQ5.kp K6 id; have l6 := bI6.lt; have l7 := bO6.lt; have l8 := bQ6.lt; have i0 := bI6.c 0; have i1 := bI6.c 1; have q0 := bQ6.c 0; have q1 := bQ6.c 1; have q2 := bQ6.c 2; have o0 := bO6.c 0; have o1 := bO6.c 1; have o2 := bO6.c 2; dsimp at i0; dsimp at i1; dsimp at q0; dsimp at q1; dsimp at q2; dsimp at o0; dsimp at o1; dsimp at o2; have r0 := bO6.f 0; have r1 := bO6.f 1; have r2 := bO6.f 2; have hB6 := (hB3.trans (hb5.mono hB3.size)).trans (hb6.mono (hB3.trans (hb5.mono hB3.size)).size)))
            refine retCT _ (by rfl) (by rfl) (by rfl) (by rfl) ((((bO6.set 0 _).set 1 _).set 2 _).alloc _) Try.underlying37 (by kernel_rfl) ?_
            obtain ⟨y1, y2, y3⟩ := unp_yes HY.out
            have hs := hB2.size
            have hnp : ¬ W2.heap.size ≤ w.heap.size + 1 := by have := bO.lt; omega
            unfold UnpPost
            rw [y1, y2, y3]
            exact ⟨A, B, c, d, rfl, ((((((oA.below hb5).below hb6).set (p := ⟨_, _, _⟩) hnp _).set (p := ⟨_, _, _⟩) hnp _).set (p := ⟨_, _, _⟩) hnp _).alloc _).mono fun k _ h => Nat.le_trans hs h,
              ((((((oB.below hb5).below hb6).set (p := ⟨_, _, _⟩) hnp _).set (p := ⟨_, _, _⟩) hnp _).set (p := ⟨_, _, _⟩) hnp _).alloc _).mono fun k _ h => Nat.le_trans hs h,
              (bl_set (bl_set (bl_set hB6 (by dsimp only; omega) _) (by dsimp only; omega) _) (by dsimp only; omega) _).alloc (by simp; have := hB6.size; omega) _⟩
          · have hno : unpOk K V = false := by rw [HOK2.out]; exact decide_eq_false fun h => h2 h.2.2
            have HNO := Lib.hid hno
            have t1 : p1.toList = K.toList := congrArg _ h1
            have t2 : ¬ p2.toList = V.toList := toList_ne h2
            clear hno hok h1 h2
            go_enter Try.func38, Try.ntmps38
            go_upto_region 1 with (fail)
            rw [← hW2]
            clear hW2
            go_wp2_with (go_at_call 23; refine (HD.out _ hV).mono ?_; rw [HE.out]; rintro e w3 ⟨A, B, c, d, rfl, oA, oB, hb3⟩; have K3 := Kp.of_below (P := fun _ => False) hb3; have bI3 := bI.kp K3 id; have bO3 := bO.kp K3 id; have g0 := bI3.c 0; have g1 := bI3.c 1; dsimp at g0; dsimp at g1; have e0 := bO3.c 0; have e1 := bO3.c 1; have e2 := bO3.c 2; dsimp at e0; dsimp at e1; dsimp at e2; have hlt := bI3.lt; have hlt2 := bO3.lt; have hB3 := hB2.trans (hb3.mono hB2.size); have t0 := bO3.f 0; have t1 := bO3.f 1; have t2 := bO3.f 2)
            go_region
            go_wp2_with (go_at_call 121; (obtain ⟨w5, hw5⟩ : ∃ W, W = ((w3.alloc (.cells #[.slice A (decSt V).seen.length c, .slice B (decSt V).sibs.length d] 25)).alloc (.cells #[.string (K.extract 2 K.size), .slice A (decSt V).seen.length c, .slice B (decSt V).sibs.length d] 37)).drew := ⟨_, rfl⟩; rw [← hw5]; have hb5 : Below w3.heap.size w3 w5 := (by subst hw5; exact (((Below.refl _ _).alloc (Nat.le_refl _) _).alloc (by simp) _).drew); have bQ5 : Blk w5 (w3.heap.size + 1) #[.string (K.extract 2 K.size), .slice A (decSt V).seen.length c, .slice B (decSt V).sibs.length d] 37 := (by subst hw5; refine Blk.drew (Blk.new' _ _ ?_); exact World.size_alloc _ _); clear hw5; refine (HP.out A B c d _ ((own_rdD oA hdw1).mono hb5) ((own_rdS oB hdw2).mono hb5)).mono ?_; rintro e w6 ⟨rfl, hb6⟩; have K5 := Kp.of_below (P := fun _ => False) hb5; have K6 := Kp.of_below (P := fun _ => False) hb6; have bI6 := (bI3.kp K5 id).kp K6 id; have bO6 := (bO3.kp K5 id).kp K6 id; have bQ6 := bQ5.kp K6 id; have l6 := bI6.lt; have l7 := bO6.lt; have l8 := bQ6.lt; have i0 := bI6.c 0; have i1 := bI6.c 1; have q0 := bQ6.c 0; have q1 := bQ6.c 1; have q2 := bQ6.c 2; have o0 := bO6.c 0; have o1 := bO6.c 1; have o2 := bO6.c 2; dsimp at i0; dsimp at i1; dsimp at q0; dsimp at q1; dsimp at q2; dsimp at o0; dsimp at o1; dsimp at o2; have r0 := bO6.f 0; have r1 := bO6.f 1; have r2 := bO6.f 2; have hB6 := (hB3.trans (hb5.mono hB3.size)).trans (hb6.mono (hB3.trans (hb5.mono hB3.size)).size)))
            refine retCT _ (by rfl) (by rfl) (by rfl) (by rfl) ((((bO6.set 0 _).set 1 _).set 2 _).alloc _) Try.underlying37 (by kernel_rfl) ?_
            exact unpPost_no HNO.out ((bl_set (bl_set (bl_set hB6 (by dsimp only; omega) _) (by dsimp only; omega) _) (by dsimp only; omega) _).alloc (by simp; have := hB6.size; omega) _)
        · have hno : unpOk K V = false := by rw [HOK2.out]; exact decide_eq_false fun h => h1 h.2.1
          have HNO := Lib.hid hno
          have t1 : ¬ p1.toList = K.toList := toList_ne h1
          clear hno hok h1
          go_enter Try.func38, Try.ntmps38
          go_upto_region 1 with (fail)
          rw [← hW2]
          clear hW2
          go_wp2_with (go_at_call 23; refine (HD.out _ hV).mono ?_; rw [HE.out]; rintro e w3 ⟨A, B, c, d, rfl, oA, oB, hb3⟩; have K3 := Kp.of_below (P := fun _ => False) hb3; have bI3 := bI.kp K3 id; have bO3 := bO.kp K3 id; have g0 := bI3.c 0; have g1 := bI3.c 1; dsimp at g0; dsimp at g1; have e0 := bO3.c 0; have e1 := bO3.c 1; have e2 := bO3.c 2; dsimp at e0; dsimp at e1; dsimp at e2; have hlt := bI3.lt; have hlt2 := bO3.lt; have hB3 := hB2.trans (hb3.mono hB2.size); have t0 := bO3.f 0; have t1 := bO3.f 1; have t2 := bO3.f 2)
          go_region
          go_wp2_with (go_at_call 121; (obtain ⟨w5, hw5⟩ : ∃ W, W = ((w3.alloc (.cells #[.slice A (decSt V).seen.length c, .slice B (decSt V).sibs.length d] 25)).alloc (.cells #[.string (K.extract 2 K.size), .slice A (decSt V).seen.length c, .slice B (decSt V).sibs.length d] 37)).drew := ⟨_, rfl⟩; rw [← hw5]; have hb5 : Below w3.heap.size w3 w5 := (by subst hw5; exact (((Below.refl _ _).alloc (Nat.le_refl _) _).alloc (by simp) _).drew); have bQ5 : Blk w5 (w3.heap.size + 1) #[.string (K.extract 2 K.size), .slice A (decSt V).seen.length c, .slice B (decSt V).sibs.length d] 37 := (by subst hw5; refine Blk.drew (Blk.new' _ _ ?_); exact World.size_alloc _ _); clear hw5; refine (HP.out A B c d _ ((own_rdD oA hdw1).mono hb5) ((own_rdS oB hdw2).mono hb5)).mono ?_; rintro e w6 ⟨rfl, hb6⟩; have K5 := Kp.of_below (P := fun _ => False) hb5; have K6 := Kp.of_below (P := fun _ => False) hb6; have bI6 := (bI3.kp K5 id).kp K6 id; have bO6 := (bO3.kp K5 id).kp K6 id; have bQ6 := bQ5.kp K6 id; have l6 := bI6.lt; have l7 := bO6.lt; have l8 := bQ6.lt; have i0 := bI6.c 0; have i1 := bI6.c 1; have q0 := bQ6.c 0; have q1 := bQ6.c 1; have q2 := bQ6.c 2; have o0 := bO6.c 0; have o1 := bO6.c 1; have o2 := bO6.c 2; dsimp at i0; dsimp at i1; dsimp at q0; dsimp at q1; dsimp at q2; dsimp at o0; dsimp at o1; dsimp at o2; have r0 := bO6.f 0; have r1 := bO6.f 1; have r2 := bO6.f 2; have hB6 := (hB3.trans (hb5.mono hB3.size)).trans (hb6.mono (hB3.trans (hb5.mono hB3.size)).size)))
          refine retCT _ (by rfl) (by rfl) (by rfl) (by rfl) ((((bO6.set 0 _).set 1 _).set 2 _).alloc _) Try.underlying37 (by kernel_rfl) ?_
          exact unpPost_no HNO.out ((bl_set (bl_set (bl_set hB6 (by dsimp only; omega) _) (by dsimp only; omega) _) (by dsimp only; omega) _).alloc (by simp; have := hB6.size; omega) _)
      · have hno : unpOk K V = false := by rw [HOK2.out]; exact decide_eq_false fun h => hpe h.1
        have HNO := Lib.hid hno
        have hpe' : (pe != 0) = true := by simpa using hpe
        clear hno hok hpe
        go_enter Try.func38, Try.ntmps38
        go_upto_region 1 with (fail)
        rw [← hW2]
        clear hW2
        go_wp2_with (go_at_call 23; refine (HD.out _ hV).mono ?_; rw [HE.out]; rintro e w3 ⟨A, B, c, d, rfl, oA, oB, hb3⟩; have K3 := Kp.of_below (P := fun _ => False) hb3; have bI3 := bI.kp K3 id; have bO3 := bO.kp K3 id; have g0 := bI3.c 0; have g1 := bI3.c 1; dsimp at g0; dsimp at g1; have e0 := bO3.c 0; have e1 := bO3.c 1; have e2 := bO3.c 2; dsimp at e0; dsimp at e1; dsimp at e2; have hlt := bI3.lt; have hlt2 := bO3.lt; have hB3 := hB2.trans (hb3.mono hB2.size); have t0 := bO3.f 0; have t1 := bO3.f 1; have t2 := bO3.f 2)
        go_region
        go_wp2_with (go_at_call 121; (obtain ⟨w5, hw5⟩ : ∃ W, W = ((w3.alloc (.cells #[.slice A (decSt V).seen.length c, .slice B (decSt V).sibs.length d] 25)).alloc (.cells #[.string (K.extract 2 K.size), .slice A (decSt V).seen.length c, .slice B (decSt V).sibs.length d] 37)).drew := ⟨_, rfl⟩; rw [← hw5]; have hb5 : Below w3.heap.size w3 w5 := (by subst hw5; exact (((Below.refl _ _).alloc (Nat.le_refl _) _).alloc (by simp) _).drew); have bQ5 : Blk w5 (w3.heap.size + 1) #[.string (K.extract 2 K.size), .slice A (decSt V).seen.length c, .slice B (decSt V).sibs.length d] 37 := (by subst hw5; refine Blk.drew (Blk.new' _ _ ?_); exact World.size_alloc _ _); clear hw5; refine (HP.out A B c d _ ((own_rdD oA hdw1).mono hb5) ((own_rdS oB hdw2).mono hb5)).mono ?_; rintro e w6 ⟨rfl, hb6⟩; have K5 := Kp.of_below (P := fun _ => False) hb5; have K6 := Kp.of_below (P := fun _ => False) hb6; have bI6 := (bI3.kp K5 id).kp K6 id; have bO6 := (bO3.kp K5 id).kp K6 id; have bQ6 := bQ5.kp K6 id; have l6 := bI6.lt; have l7 := bO6.lt; have l8 := bQ6.lt; have i0 := bI6.c 0; have i1 := bI6.c 1; have q0 := bQ6.c 0; have q1 := bQ6.c 1; have q2 := bQ6.c 2; have o0 := bO6.c 0; have o1 := bO6.c 1; have o2 := bO6.c 2; dsimp at i0; dsimp at i1; dsimp at q0; dsimp at q1; dsimp at q2; dsimp at o0; dsimp at o1; dsimp at o2; have r0 := bO6.f 0; have r1 := bO6.f 1; have r2 := bO6.f 2; have hB6 := (hB3.trans (hb5.mono hB3.size)).trans (hb6.mono (hB3.trans (hb5.mono hB3.size)).size)))
        refine retCT _ (by rfl) (by rfl) (by rfl) (by rfl) ((((bO6.set 0 _).set 1 _).set 2 _).alloc _) Try.underlying37 (by kernel_rfl) ?_
        exact unpPost_no HNO.out ((bl_set (bl_set (bl_set hB6 (by dsimp only; omega) _) (by dsimp only; omega) _) (by dsimp only; omega) _).alloc (by simp; have := hB6.size; omega) _)
    · have hno : unpOk K V = false := by rw [HOK.out]; exact decide_eq_false fun h => hok h.1
      have hE : decEr V = 110 := by rw [HER.out, if_neg hok]
      have HE := Lib.hid hE
      have HNO := Lib.hid hno
      clear hE hno hok
      go_enter Try.func38, Try.ntmps38
      go_upto_region 1 with (fail)
      rw [← hW2]
      clear hW2
      go_wp2_with (go_at_call 23; refine (HD.out _ hV).mono ?_; rw [HE.out]; rintro e w3 ⟨A, B, c, d, rfl, oA, oB, hb3⟩; have K3 := Kp.of_below (P := fun _ => False) hb3; have bI3 := bI.kp K3 id; have bO3 := bO.kp K3 id; have g0 := bI3.c 0; have g1 := bI3.c 1; dsimp at g0; dsimp at g1; have e0 := bO3.c 0; have e1 := bO3.c 1; have e2 := bO3.c 2; dsimp at e0; dsimp at e1; dsimp at e2; have hlt := bI3.lt; have hlt2 := bO3.lt; have hB3 := hB2.trans (hb3.mono hB2.size); have t0 := bO3.f 0; have t1 := bO3.f 1; have t2 := bO3.f 2)
      go_region
      go_wp2
      refine retCT _ (by rfl) (by rfl) (by rfl) (by rfl) (((((bO3.set 0 _).set 1 _).set 2 _).alloc _).alloc _).drew Try.underlying37 (by kernel_rfl) ?_
      exact unpPost_no HNO.out (((bl_set (bl_set (bl_set hB3 (by dsimp only; omega) _) (by dsimp only; omega) _) (by dsimp only; omega) _).alloc (by simp; have := hB3.size; omega) _).alloc (by simp; have := hB3.size; omega) _).drew
  · have hno : unpOk K V = false := decide_eq_false fun h => h2 h.1
    have HNO := Lib.hid hno
    clear hno
    go_enter Try.func38, Try.ntmps38
    go_upto_region 1 with (fail)
    rw [← hW2]
    clear hW2
    go_wp2
    refine retCT _ (by rfl) (by rfl) (by rfl) (by rfl) (((bO.set 0 _).set 1 _).set 2 _) Try.underlying37 (by kernel_rfl) ?_
    exact unpPost_no HNO.out (bl_set (bl_set (bl_set hB2 (by dsimp only; omega) _) (by dsimp only; omega) _) (by dsimp only; omega) _)
end Go.Proofs.Ytfdiedcleggfnaa
