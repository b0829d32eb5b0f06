/- The object of a cell: the program's Unpack. -/
import Derived.Test.YtfdiedcleggfnaaObj5
namespace Go.Proofs.Ytfdiedcleggfnaa
open Go.RowKit Go.Sort

set_option maxRecDepth 100000 in
set_option maxHeartbeats 2000000 in
theorem objUnpack (K V : ByteArray) (w : World) (hK : K.size ≤ 140737488351232) (hV : V.size ≤ 140737488351232) :
    Calls Try.prog 39 #[.agg #[.string K, .string V]] w (UnpPost K V w) := by
  obtain ⟨W2, hW2⟩ : ∃ W2, W2 = (w.alloc (.cells #[.string K, .string V] 57)).alloc (.cells #[.string ⟨#[]⟩, .slice none 0 0, .slice none 0 0] 37) := ⟨_, rfl⟩
  have hB2 : Below w.heap.size w W2 := by rw [hW2]; exact ((Below.refl _ _).alloc (Nat.le_refl _) _).alloc (by simp) _
  have bI : Blk W2 w.heap.size #[.string K, .string V] 57 := by rw [hW2]; exact (Blk.new _ _ _).alloc _
  have bO : Blk W2 (w.heap.size + 1) #[.string ⟨#[]⟩, .slice none 0 0, .slice none 0 0] 37 := by rw [hW2]; exact Blk.new' _ _ (by simp)
  obtain ⟨g, hg⟩ : ∃ g, W2.heap.size = g := ⟨_, rfl⟩
  have hg2 : w.heap.size + 1 < g := hg ▸ bO.lt
  have hgI : ¬ w.heap.size = g := by omega
  have hgO : ¬ w.heap.size + 1 = g := by omega
  have HG := Lib.hid hg
  clear hg
  have c0 := bI.c 0
  have c1 := bI.c 1
  have d0 := bO.c 0
  have d1 := bO.c 1
  have d2 := bO.c 2
  have f0 := bO.f 0
  have f1 := bO.f 1
  have f2 := bO.f 2
  dsimp at c0 c1 d0 d1 d2
  have hD := dvvDec V
  unfold DecPost2 at hD
  have HD := Lib.hid hD
  clear hD
  have HK := Lib.hid hK
  have HV := Lib.hid hV
  have HQ := Lib.hid (unpOk_eq K V)
  by_cases h2 : 2 ≤ K.size
  · have HF : Hid (rdF K = (byteAt K 0 * 256 + byteAt K 1, 2, 0)) := if_pos h2
    have HX : Hid (K.extract 2 (2 + (K.size - 2)) = cellK K) := by unfold Hid cellK; rw [show 2 + (K.size - 2) = K.size by omega]
    have hp := placeN_lt (cellK K)
    by_cases hk : keyOk (cellK K) = true
    · have HP : Hid (placeR (cellK K) = .tuple #[.int .i64 (placeN (cellK K)), .int .i64 0]) := if_pos hk
      by_cases hd : decOk V = true
      · have HE : Hid (decEr V = 0) := if_pos hd
        by_cases hpn : placeN (cellK K) = byteAt K 0 * 256 + byteAt K 1
        · by_cases hab : (decSt V).seen.length = 0
          · have HAB : Hid (decide ((decSt V).seen.length = 0) = true) := decide_eq_true hab
            have HNO : Hid (unpOk K V = false) := by unfold Hid; rw [HQ.out]; exact decide_eq_false fun h => h.2.2.2.2.1 hab
            rw [← hpn] at HF
            generalize placeN (cellK K) = p at *
            clear hk hd hpn hab
            go_enter Try.func39, Try.ntmps39
            go_upto_region 1 with (fail)
            rw [← hW2]
            clear hW2
            go_wp2_with (first | (go_at_call 107; refine (newReaderAt K _ g HG.out HK.out).mono ?_; rintro e w3 ⟨rfl, hr3, hb3, hs3⟩; rw [← HG.out] at hb3; have K3 := (Kp.of_below (P := fun k => k = g) hb3); clear hs3) | (go_at_call 122; refine (rFixed2 g K _ hr3).mono ?_; rw [HF.out]; rintro e w4 ⟨rfl, hr4, k4⟩; dsimp only at hr4; have K4 := K3.trans k4 (fun _ _ h => h)) | (go_at_call 124; refine (rLeft g K 2 0 _ hr4).mono ?_; rintro e w5 ⟨rfl, k, rfl⟩) | (go_at_call 123; refine (rRawYes g K 2 _ _ (hr4.drewN k) (by omega)).mono ?_; rw [HX.out]; rintro e w6 ⟨rfl, hr5, k5⟩; have K5 := (K4.drewN k).trans k5 (fun _ _ h => h)) | (go_at_call 84; refine (objPlace (cellK K) _).mono ?_; rw [HP.out]; rintro e w6b ⟨rfl, hb6⟩; have K6 := K5.trans (Kp.of_below (P := fun k => k = g) hb6) (fun _ _ h => h); have hr6 := (hr5).kp (Kp.of_below (P := fun _ => False) hb6) id; have bI6 := bI.kp K6 hgI; have j1 := bI6.c 1; dsimp at j1) | (go_at_call 24; refine (HD.out _ HV.out).mono ?_; rw [HE.out]; rintro e w7 ⟨A, B, c, d, rfl, oA, oB, hb7⟩; have K7 := K6.trans (Kp.of_below (P := fun k => k = g) hb7) (fun _ _ h => h); have hr7 := hr6.kp (Kp.of_below (P := fun _ => False) hb7) id; have bI7 := bI.kp K7 hgI; have bO7 := bO.kp K7 hgO; have i0 := bI7.c 0; have i1 := bI7.c 1; dsimp at i0; dsimp at i1; have o0 := bO7.c 0; have o1 := bO7.c 1; have o2 := bO7.c 2; dsimp at o0; dsimp at o1; dsimp at o2; have r0 := bO7.f 0; have r1 := bO7.f 1; have r2 := bO7.f 2; have l7 := bO7.lt; have hB7 : Below w.heap.size w w7 := hB2.trans (K7.below hB2.size (fun i hi => (by have h9 : i = g := hi; omega))); have hl7 : g < w7.heap.size := lt_of_heap hr7.1) | (go_at_call 125; refine (readerErr g K _ _ _ (hr7.alloc _)).mono ?_; rintro e w8 ⟨rfl, rfl⟩) | (go_at_call 126; refine (objAbsent A B _ _ c d _).mono ?_; rw [HAB.out]; rintro e w9 ⟨rfl, hb9⟩; have K9 := Kp.of_below (P := fun _ => False) hb9; have bI9 := (bI7.alloc _).kp K9 id; have bO9 := (bO7.alloc _).kp K9 id; have i0 := bI9.c 0; have i1 := bI9.c 1; dsimp at i0; dsimp at i1; have o0 := bO9.c 0; have o1 := bO9.c 1; have o2 := bO9.c 2; dsimp at o0; dsimp at o1; dsimp at o2; have r0 := bO9.f 0; have r1 := bO9.f 1; have r2 := bO9.f 2; have bS := (Blk.new w7 #[.slice A (decSt V).seen.length c, .slice B (decSt V).sibs.length d] 25).kp K9 id; have s0 := bS.c 0; have s1 := bS.c 1; dsimp at s0; dsimp at s1))
            have hB9 : Below w.heap.size w w9 := (hB7.alloc hB7.size _).trans (hb9.mono (hB7.alloc hB7.size _).size)
            refine retCT _ (by rfl) (by rfl) (by rfl) (by rfl) (((bO9.set 0 _).set 1 _).set 2 _) Try.underlying37 (by kernel_rfl) ?_
            exact unpPost_no HNO.out (bl_set (bl_set (bl_set hB9 (by dsimp only; omega) _) (by dsimp only; omega) _) (by dsimp only; omega) _)
          · have HAB : Hid (decide ((decSt V).seen.length = 0) = false) := decide_eq_false hab
            by_cases h280 : 280 < V.size
            · have HNO : Hid (unpOk K V = false) := by unfold Hid; rw [HQ.out]; exact decide_eq_false fun h => absurd h.2.2.2.2.2 (by omega)
              rw [← hpn] at HF
              generalize placeN (cellK K) = p at *
              clear hk hd hpn hab
              go_enter Try.func39, Try.ntmps39
              go_upto_region 1 with (fail)
              rw [← hW2]
              clear hW2
              go_wp2_with (first | (go_at_call 107; refine (newReaderAt K _ g HG.out HK.out).mono ?_; rintro e w3 ⟨rfl, hr3, hb3, hs3⟩; rw [← HG.out] at hb3; have K3 := (Kp.of_below (P := fun k => k = g) hb3); clear hs3) | (go_at_call 122; refine (rFixed2 g K _ hr3).mono ?_; rw [HF.out]; rintro e w4 ⟨rfl, hr4, k4⟩; dsimp only at hr4; have K4 := K3.trans k4 (fun _ _ h => h)) | (go_at_call 124; refine (rLeft g K 2 0 _ hr4).mono ?_; rintro e w5 ⟨rfl, k, rfl⟩) | (go_at_call 123; refine (rRawYes g K 2 _ _ (hr4.drewN k) (by omega)).mono ?_; rw [HX.out]; rintro e w6 ⟨rfl, hr5, k5⟩; have K5 := (K4.drewN k).trans k5 (fun _ _ h => h)) | (go_at_call 84; refine (objPlace (cellK K) _).mono ?_; rw [HP.out]; rintro e w6b ⟨rfl, hb6⟩; have K6 := K5.trans (Kp.of_below (P := fun k => k = g) hb6) (fun _ _ h => h); have hr6 := (hr5).kp (Kp.of_below (P := fun _ => False) hb6) id; have bI6 := bI.kp K6 hgI; have j1 := bI6.c 1; dsimp at j1) | (go_at_call 24; refine (HD.out _ HV.out).mono ?_; rw [HE.out]; rintro e w7 ⟨A, B, c, d, rfl, oA, oB, hb7⟩; have K7 := K6.trans (Kp.of_below (P := fun k => k = g) hb7) (fun _ _ h => h); have hr7 := hr6.kp (Kp.of_below (P := fun _ => False) hb7) id; have bI7 := bI.kp K7 hgI; have bO7 := bO.kp K7 hgO; have i0 := bI7.c 0; have i1 := bI7.c 1; dsimp at i0; dsimp at i1; have o0 := bO7.c 0; have o1 := bO7.c 1; have o2 := bO7.c 2; dsimp at o0; dsimp at o1; dsimp at o2; have r0 := bO7.f 0; have r1 := bO7.f 1; have r2 := bO7.f 2; have l7 := bO7.lt; have hB7 : Below w.heap.size w w7 := hB2.trans (K7.below hB2.size (fun i hi => (by have h9 : i = g := hi; omega))); have hl7 : g < w7.heap.size := lt_of_heap hr7.1) | (go_at_call 125; refine (readerErr g K _ _ _ (hr7.alloc _)).mono ?_; rintro e w8 ⟨rfl, rfl⟩) | (go_at_call 126; refine (objAbsent A B _ _ c d _).mono ?_; rw [HAB.out]; rintro e w9 ⟨rfl, hb9⟩; have K9 := Kp.of_below (P := fun _ => False) hb9; have bI9 := (bI7.alloc _).kp K9 id; have bO9 := (bO7.alloc _).kp K9 id; have i0 := bI9.c 0; have i1 := bI9.c 1; dsimp at i0; dsimp at i1; have o0 := bO9.c 0; have o1 := bO9.c 1; have o2 := bO9.c 2; dsimp at o0; dsimp at o1; dsimp at o2; have r0 := bO9.f 0; have r1 := bO9.f 1; have r2 := bO9.f 2; have bS := (Blk.new w7 #[.slice A (decSt V).seen.length c, .slice B (decSt V).sibs.length d] 25).kp K9 id; have s0 := bS.c 0; have s1 := bS.c 1; dsimp at s0; dsimp at s1))
              have hB9 : Below w.heap.size w w9 := (hB7.alloc hB7.size _).trans (hb9.mono (hB7.alloc hB7.size _).size)
              refine retCT _ (by rfl) (by rfl) (by rfl) (by rfl) (((bO9.set 0 _).set 1 _).set 2 _) Try.underlying37 (by kernel_rfl) ?_
              exact unpPost_no HNO.out (bl_set (bl_set (bl_set hB9 (by dsimp only; omega) _) (by dsimp only; omega) _) (by dsimp only; omega) _)
            · have HY : Hid (unpOk K V = true) := by unfold Hid; rw [HQ.out]; exact decide_eq_true ⟨h2, hk, hd, hpn, hab, by omega⟩
              rw [← hpn] at HF
              generalize placeN (cellK K) = p at *
              clear hk hd hpn hab
              go_enter Try.func39, Try.ntmps39
              go_upto_region 1 with (fail)
              rw [← hW2]
              clear hW2
              go_wp2_with (first | (go_at_call 107; refine (newReaderAt K _ g HG.out HK.out).mono ?_; rintro e w3 ⟨rfl, hr3, hb3, hs3⟩; rw [← HG.out] at hb3; have K3 := (Kp.of_below (P := fun k => k = g) hb3); clear hs3) | (go_at_call 122; refine (rFixed2 g K _ hr3).mono ?_; rw [HF.out]; rintro e w4 ⟨rfl, hr4, k4⟩; dsimp only at hr4; have K4 := K3.trans k4 (fun _ _ h => h)) | (go_at_call 124; refine (rLeft g K 2 0 _ hr4).mono ?_; rintro e w5 ⟨rfl, k, rfl⟩) | (go_at_call 123; refine (rRawYes g K 2 _ _ (hr4.drewN k) (by omega)).mono ?_; rw [HX.out]; rintro e w6 ⟨rfl, hr5, k5⟩; have K5 := (K4.drewN k).trans k5 (fun _ _ h => h)) | (go_at_call 84; refine (objPlace (cellK K) _).mono ?_; rw [HP.out]; rintro e w6b ⟨rfl, hb6⟩; have K6 := K5.trans (Kp.of_below (P := fun k => k = g) hb6) (fun _ _ h => h); have hr6 := (hr5).kp (Kp.of_below (P := fun _ => False) hb6) id; have bI6 := bI.kp K6 hgI; have j1 := bI6.c 1; dsimp at j1) | (go_at_call 24; refine (HD.out _ HV.out).mono ?_; rw [HE.out]; rintro e w7 ⟨A, B, c, d, rfl, oA, oB, hb7⟩; have K7 := K6.trans (Kp.of_below (P := fun k => k = g) hb7) (fun _ _ h => h); have hr7 := hr6.kp (Kp.of_below (P := fun _ => False) hb7) id; have bI7 := bI.kp K7 hgI; have bO7 := bO.kp K7 hgO; have i0 := bI7.c 0; have i1 := bI7.c 1; dsimp at i0; dsimp at i1; have o0 := bO7.c 0; have o1 := bO7.c 1; have o2 := bO7.c 2; dsimp at o0; dsimp at o1; dsimp at o2; have r0 := bO7.f 0; have r1 := bO7.f 1; have r2 := bO7.f 2; have l7 := bO7.lt; have hB7 : Below w.heap.size w w7 := hB2.trans (K7.below hB2.size (fun i hi => (by have h9 : i = g := hi; omega))); have hl7 : g < w7.heap.size := lt_of_heap hr7.1) | (go_at_call 125; refine (readerErr g K _ _ _ (hr7.alloc _)).mono ?_; rintro e w8 ⟨rfl, rfl⟩) | (go_at_call 126; refine (objAbsent A B _ _ c d _).mono ?_; rw [HAB.out]; rintro e w9 ⟨rfl, hb9⟩; have K9 := Kp.of_below (P := fun _ => False) hb9; have bI9 := (bI7.alloc _).kp K9 id; have bO9 := (bO7.alloc _).kp K9 id; have i0 := bI9.c 0; have i1 := bI9.c 1; dsimp at i0; dsimp at i1; have o0 := bO9.c 0; have o1 := bO9.c 1; have o2 := bO9.c 2; dsimp at o0; dsimp at o1; dsimp at o2; have r0 := bO9.f 0; have r1 := bO9.f 1; have r2 := bO9.f 2; have bS := (Blk.new w7 #[.slice A (decSt V).seen.length c, .slice B (decSt V).sibs.length d] 25).kp K9 id; have s0 := bS.c 0; have s1 := bS.c 1; dsimp at s0; dsimp at s1))
              have hB9 : Below w.heap.size w w9 := (hB7.alloc hB7.size _).trans (hb9.mono (hB7.alloc hB7.size _).size)
              refine retCT _ (by rfl) (by rfl) (by rfl) (by rfl) (((bO9.set 0 _).set 1 _).set 2 _) Try.underlying37 (by kernel_rfl) ?_
              obtain ⟨y1, y2, y3⟩ := unp_yes HY.out
              have l6 : g < w6b.heap.size := lt_of_heap hr6.1
              have hnp : ¬ w6b.heap.size ≤ w.heap.size + 1 := by omega
              unfold UnpPost
              rw [y1, y2, y3]
              have hb79 := ((Below.refl w7.heap.size w7).alloc (Nat.le_refl _) (.cells #[.slice A (decSt V).seen.length c, .slice B (decSt V).sibs.length d] 25)).trans (hb9.mono (by simp))
              exact ⟨A, B, c, d, rfl, ((((oA.below hb79).set (p := ⟨_, _, _⟩) hnp _).set (p := ⟨_, _, _⟩) hnp _).set (p := ⟨_, _, _⟩) hnp _).mono fun k _ h => (by have h9 : w6b.heap.size ≤ k := h; omega),
                ((((oB.below hb79).set (p := ⟨_, _, _⟩) hnp _).set (p := ⟨_, _, _⟩) hnp _).set (p := ⟨_, _, _⟩) hnp _).mono fun k _ h => (by have h9 : w6b.heap.size ≤ k := h; omega),
                bl_set (bl_set (bl_set hB9 (by dsimp only; omega) _) (by dsimp only; omega) _) (by dsimp only; omega) _⟩
        · have HNO : Hid (unpOk K V = false) := by unfold Hid; rw [HQ.out]; exact decide_eq_false fun h => hpn h.2.2.2.1
          generalize placeN (cellK K) = p at *
          have hb0 := byteAt_lt K 0
          have hb1 := byteAt_lt K 1
          generalize byteAt K 0 * 256 + byteAt K 1 = N at *
          clear hk hd
          go_enter Try.func39, Try.ntmps39
          go_upto_region 1 with (fail)
          rw [← hW2]
          clear hW2
          go_wp2_with (first | (go_at_call 107; refine (newReaderAt K _ g HG.out HK.out).mono ?_; rintro e w3 ⟨rfl, hr3, hb3, hs3⟩; rw [← HG.out] at hb3; have K3 := (Kp.of_below (P := fun k => k = g) hb3); clear hs3) | (go_at_call 122; refine (rFixed2 g K _ hr3).mono ?_; rw [HF.out]; rintro e w4 ⟨rfl, hr4, k4⟩; dsimp only at hr4; have K4 := K3.trans k4 (fun _ _ h => h)) | (go_at_call 124; refine (rLeft g K 2 0 _ hr4).mono ?_; rintro e w5 ⟨rfl, k, rfl⟩) | (go_at_call 123; refine (rRawYes g K 2 _ _ (hr4.drewN k) (by omega)).mono ?_; rw [HX.out]; rintro e w6 ⟨rfl, hr5, k5⟩; have K5 := (K4.drewN k).trans k5 (fun _ _ h => h)) | (go_at_call 84; refine (objPlace (cellK K) _).mono ?_; rw [HP.out]; rintro e w6b ⟨rfl, hb6⟩; have K6 := K5.trans (Kp.of_below (P := fun k => k = g) hb6) (fun _ _ h => h); have hr6 := (hr5).kp (Kp.of_below (P := fun _ => False) hb6) id; have bI6 := bI.kp K6 hgI; have j1 := bI6.c 1; dsimp at j1) | (go_at_call 24; refine (HD.out _ HV.out).mono ?_; rw [HE.out]; rintro e w7 ⟨A, B, c, d, rfl, oA, oB, hb7⟩; have K7 := K6.trans (Kp.of_below (P := fun k => k = g) hb7) (fun _ _ h => h); have hr7 := hr6.kp (Kp.of_below (P := fun _ => False) hb7) id; have bI7 := bI.kp K7 hgI; have bO7 := bO.kp K7 hgO; have i0 := bI7.c 0; have i1 := bI7.c 1; dsimp at i0; dsimp at i1; have o0 := bO7.c 0; have o1 := bO7.c 1; have o2 := bO7.c 2; dsimp at o0; dsimp at o1; dsimp at o2; have r0 := bO7.f 0; have r1 := bO7.f 1; have r2 := bO7.f 2; have l7 := bO7.lt; have hB7 : Below w.heap.size w w7 := hB2.trans (K7.below hB2.size (fun i hi => (by have h9 : i = g := hi; omega))); have hl7 : g < w7.heap.size := lt_of_heap hr7.1) | (go_at_call 125; refine (readerErr g K _ _ _ (hr7.alloc _)).mono ?_; rintro e w8 ⟨rfl, rfl⟩))
          refine retCT _ (by rfl) (by rfl) (by rfl) (by rfl) ((((bO7.set 0 _).set 1 _).set 2 _).alloc _) Try.underlying37 (by kernel_rfl) ?_
          exact unpPost_no HNO.out ((bl_set (bl_set (bl_set hB7 (by dsimp only; omega) _) (by dsimp only; omega) _) (by dsimp only; omega) _).alloc (by simp; have := hB7.size; omega) _)
      · have HNO : Hid (unpOk K V = false) := by unfold Hid; rw [HQ.out]; exact decide_eq_false fun h => hd h.2.2.1
        have HE : Hid (decEr V = 110) := if_neg hd
        generalize placeN (cellK K) = p at *
        generalize byteAt K 0 * 256 + byteAt K 1 = N at *
        clear hk hd
        go_enter Try.func39, Try.ntmps39
        go_upto_region 1 with (fail)
        rw [← hW2]
        clear hW2
        go_wp2_with (first | (go_at_call 107; refine (newReaderAt K _ g HG.out HK.out).mono ?_; rintro e w3 ⟨rfl, hr3, hb3, hs3⟩; rw [← HG.out] at hb3; have K3 := (Kp.of_below (P := fun k => k = g) hb3); clear hs3) | (go_at_call 122; refine (rFixed2 g K _ hr3).mono ?_; rw [HF.out]; rintro e w4 ⟨rfl, hr4, k4⟩; dsimp only at hr4; have K4 := K3.trans k4 (fun _ _ h => h)) | (go_at_call 124; refine (rLeft g K 2 0 _ hr4).mono ?_; rintro e w5 ⟨rfl, k, rfl⟩) | (go_at_call 123; refine (rRawYes g K 2 _ _ (hr4.drewN k) (by omega)).mono ?_; rw [HX.out]; rintro e w6 ⟨rfl, hr5, k5⟩; have K5 := (K4.drewN k).trans k5 (fun _ _ h => h)) | (go_at_call 84; refine (objPlace (cellK K) _).mono ?_; rw [HP.out]; rintro e w6b ⟨rfl, hb6⟩; have K6 := K5.trans (Kp.of_below (P := fun k => k = g) hb6) (fun _ _ h => h); have hr6 := (hr5).kp (Kp.of_below (P := fun _ => False) hb6) id; have bI6 := bI.kp K6 hgI; have j1 := bI6.c 1; dsimp at j1) | (go_at_call 24; refine (HD.out _ HV.out).mono ?_; rw [HE.out]; rintro e w7 ⟨A, B, c, d, rfl, oA, oB, hb7⟩; have K7 := K6.trans (Kp.of_below (P := fun k => k = g) hb7) (fun _ _ h => h); have hr7 := hr6.kp (Kp.of_below (P := fun _ => False) hb7) id; have bI7 := bI.kp K7 hgI; have bO7 := bO.kp K7 hgO; have i0 := bI7.c 0; have i1 := bI7.c 1; dsimp at i0; dsimp at i1; have o0 := bO7.c 0; have o1 := bO7.c 1; have o2 := bO7.c 2; dsimp at o0; dsimp at o1; dsimp at o2; have r0 := bO7.f 0; have r1 := bO7.f 1; have r2 := bO7.f 2; have l7 := bO7.lt; have hB7 : Below w.heap.size w w7 := hB2.trans (K7.below hB2.size (fun i hi => (by have h9 : i = g := hi; omega))); have hl7 : g < w7.heap.size := lt_of_heap hr7.1) | (go_at_call 125; refine (readerErr g K _ _ _ (hr7.alloc _)).mono ?_; rintro e w8 ⟨rfl, rfl⟩))
        refine retCT _ (by rfl) (by rfl) (by rfl) (by rfl) ((((bO7.set 0 _).set 1 _).set 2 _).alloc _) Try.underlying37 (by kernel_rfl) ?_
        exact unpPost_no HNO.out ((bl_set (bl_set (bl_set hB7 (by dsimp only; omega) _) (by dsimp only; omega) _) (by dsimp only; omega) _).alloc (by simp; have := hB7.size; omega) _)
    · have HNO : Hid (unpOk K V = false) := by unfold Hid; rw [HQ.out]; exact decide_eq_false fun h => hk h.2.1
      have HP : Hid (placeR (cellK K) = .tuple #[.int .i64 0, .int .i64 130]) := if_neg hk
      generalize placeN (cellK K) = p at *
      generalize byteAt K 0 * 256 + byteAt K 1 = N at *
      clear hk
      go_enter Try.func39, Try.ntmps39
      go_upto_region 1 with (fail)
      rw [← hW2]
      clear hW2
      go_wp2_with (first | (go_at_call 107; refine (newReaderAt K _ g HG.out HK.out).mono ?_; rintro e w3 ⟨rfl, hr3, hb3, hs3⟩; rw [← HG.out] at hb3; have K3 := (Kp.of_below (P := fun k => k = g) hb3); clear hs3) | (go_at_call 122; refine (rFixed2 g K _ hr3).mono ?_; rw [HF.out]; rintro e w4 ⟨rfl, hr4, k4⟩; dsimp only at hr4; have K4 := K3.trans k4 (fun _ _ h => h)) | (go_at_call 124; refine (rLeft g K 2 0 _ hr4).mono ?_; rintro e w5 ⟨rfl, k, rfl⟩) | (go_at_call 123; refine (rRawYes g K 2 _ _ (hr4.drewN k) (by omega)).mono ?_; rw [HX.out]; rintro e w6 ⟨rfl, hr5, k5⟩; have K5 := (K4.drewN k).trans k5 (fun _ _ h => h)) | (go_at_call 84; refine (objPlace (cellK K) _).mono ?_; rw [HP.out]; rintro e w6b ⟨rfl, hb6⟩; have K6 := K5.trans (Kp.of_below (P := fun k => k = g) hb6) (fun _ _ h => h); have hr6 := (hr5).kp (Kp.of_below (P := fun _ => False) hb6) id; have bI6 := bI.kp K6 hgI; have j1 := bI6.c 1; dsimp at j1) | (go_at_call 24; refine (HD.out _ HV.out).mono ?_; rintro e w7 ⟨A, B, c, d, rfl, oA, oB, hb7⟩; have K7 := K6.trans (Kp.of_below (P := fun k => k = g) hb7) (fun _ _ h => h); have hr7 := hr6.kp (Kp.of_below (P := fun _ => False) hb7) id; have bI7 := bI.kp K7 hgI; have bO7 := bO.kp K7 hgO; have i0 := bI7.c 0; have i1 := bI7.c 1; dsimp at i0; dsimp at i1; have o0 := bO7.c 0; have o1 := bO7.c 1; have o2 := bO7.c 2; dsimp at o0; dsimp at o1; dsimp at o2; have r0 := bO7.f 0; have r1 := bO7.f 1; have r2 := bO7.f 2; have l7 := bO7.lt; have hB7 : Below w.heap.size w w7 := hB2.trans (K7.below hB2.size (fun i hi => (by have h9 : i = g := hi; omega))); have hl7 : g < w7.heap.size := lt_of_heap hr7.1) | (go_at_call 125; refine (readerErr g K _ _ _ (hr7.alloc _)).mono ?_; rintro e w8 ⟨rfl, rfl⟩))
      refine retCT _ (by rfl) (by rfl) (by rfl) (by rfl) ((((bO7.set 0 _).set 1 _).set 2 _).alloc _) Try.underlying37 (by kernel_rfl) ?_
      exact unpPost_no HNO.out ((bl_set (bl_set (bl_set hB7 (by dsimp only; omega) _) (by dsimp only; omega) _) (by dsimp only; omega) _).alloc (by simp; have := hB7.size; omega) _)
  · have HF : Hid (rdF K = (0, 0, 10)) := if_neg h2
    have HP : Hid (placeR ⟨#[]⟩ = .tuple #[.int .i64 0, .int .i64 130]) := by unfold Hid; rfl
    have HNO : Hid (unpOk K V = false) := by unfold Hid; rw [HQ.out]; exact decide_eq_false fun h => h2 h.1
    clear h2
    go_enter Try.func39, Try.ntmps39
    go_upto_region 1 with (fail)
    rw [← hW2]
    clear hW2
    go_wp2_with (first | (go_at_call 107; refine (newReaderAt K _ g HG.out HK.out).mono ?_; rintro e w3 ⟨rfl, hr3, hb3, hs3⟩; rw [← HG.out] at hb3; have K3 := (Kp.of_below (P := fun k => k = g) hb3); clear hs3) | (go_at_call 122; refine (rFixed2 g K _ hr3).mono ?_; rw [HF.out]; rintro e w4 ⟨rfl, hr4, k4⟩; dsimp only at hr4; have K4 := K3.trans k4 (fun _ _ h => h)) | (go_at_call 124; refine (rLeft g K 0 10 _ hr4).mono ?_; rintro e w5 ⟨rfl, k, rfl⟩) | (go_at_call 123; refine (rRawNo g K _ _ _ _ (hr4.drewN k) (by decide)).mono ?_; rintro e w6 ⟨rfl, rfl⟩) | (go_at_call 84; refine (objPlace ⟨#[]⟩ _).mono ?_; rw [HP.out]; rintro e w6b ⟨rfl, hb6⟩; have K6 := (K4.drewN k).trans (Kp.of_below (P := fun k => k = g) hb6) (fun _ _ h => h); have hr6 := (hr4.drewN k).kp (Kp.of_below (P := fun _ => False) hb6) id; have bI6 := bI.kp K6 hgI; have j1 := bI6.c 1; dsimp at j1) | (go_at_call 24; refine (HD.out _ HV.out).mono ?_; rintro e w7 ⟨A, B, c, d, rfl, oA, oB, hb7⟩; have K7 := K6.trans (Kp.of_below (P := fun k => k = g) hb7) (fun _ _ h => h); have hr7 := hr6.kp (Kp.of_below (P := fun _ => False) hb7) id; have bI7 := bI.kp K7 hgI; have bO7 := bO.kp K7 hgO; have i0 := bI7.c 0; have i1 := bI7.c 1; dsimp at i0; dsimp at i1; have o0 := bO7.c 0; have o1 := bO7.c 1; have o2 := bO7.c 2; dsimp at o0; dsimp at o1; dsimp at o2; have r0 := bO7.f 0; have r1 := bO7.f 1; have r2 := bO7.f 2; have l7 := bO7.lt; have hB7 : Below w.heap.size w w7 := hB2.trans (K7.below hB2.size (fun i hi => (by have h9 : i = g := hi; omega))); have hl7 : g < w7.heap.size := lt_of_heap hr7.1) | (go_at_call 125; refine (readerErr g K _ _ _ (hr7.alloc _)).mono ?_; rintro e w8 ⟨rfl, rfl⟩))
    refine retCT _ (by rfl) (by rfl) (by rfl) (by rfl) ((((bO7.set 0 _).set 1 _).set 2 _).alloc _) Try.underlying37 (by kernel_rfl) ?_
    exact unpPost_no HNO.out ((bl_set (bl_set (bl_set hB7 (by dsimp only; omega) _) (by dsimp only; omega) _) (by dsimp only; omega) _).alloc (by simp; have := hB7.size; omega) _)
end Go.Proofs.Ytfdiedcleggfnaa
