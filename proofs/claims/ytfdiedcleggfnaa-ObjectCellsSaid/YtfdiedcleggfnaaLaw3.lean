/- DvvBytes, walked, to its end. -/
import Derived.Test.YtfdiedcleggfnaaLaw2
namespace Go.Proofs.Ytfdiedcleggfnaa
open Go.RowKit Go.Sort

theorem own_ge {w : World} {P : Nat → Prop} {e : TypeId} {sz n c : Nat} {A : Option Addr} {cs : List Value} (h : Own w P e sz (.slice A n c) n cs) : ∀ a, A = some a → P a.block ∧ a.block < w.heap.size := by
  intro a ha; subst ha; exact ⟨h.2 _ rfl, h.lt rfl⟩

set_option maxRecDepth 100000 in
set_option maxHeartbeats 2000000 in
theorem lawDvvBytes (A B : Option Addr) (c d n m : Nat) (st : St) (s : ByteArray) (w : World) (hn' : st.seen.length = n) (hm' : st.sibs.length = m) (hr : RdD w A st.seen) (hs : RdS w B st.sibs) (hn : n ≤ 8796093021952) (hm : m ≤ 3518437208780) (hss : s.size ≤ 140737488351232) :
    Calls Try.prog 3 #[.agg #[.slice A n c, .slice B m d], .string s] w fun e w' => e = .returned (.bool true) ∧ Below w.heap.size w w' := by
  have hB0 := Below.refl w.heap.size w
  have b0 := Blk.new w #[.slice A n c, .slice B m d] 25
  have hBW := hB0.alloc (Nat.le_refl _) (.cells #[.slice A n c, .slice B m d] 25)
  have hL := lentN A B c d n m st hn' hm' _ (hr.mono hBW) (hs.mono hBW) hn hm
  have hR := fun W => refDec s W hss
  have hD := fun W => dvvDec s W hss
  obtain ⟨tw1, tw2, tl1, tl2⟩ := decSt_wf s
  unfold DecPost2 at hR hD
  generalize decSt s = t at *
  generalize decEr s = er at *
  have HR := Lib.hid hR
  have HD := Lib.hid hD
  have HS := Lib.hid (ssame_self t)
  clear hR hD
  have HL := Lib.hid hL
  have HN := Lib.hid hn'
  have HM := Lib.hid hm'
  clear hL hn' hm'
  go_enter Try.func3, Try.ntmps3
  go_wp2_with (first
    | (go_at_call 17; refine HL.out.mono ?_; rintro e w1 ⟨A1, B1, c1, d1, P1, P2, rfl, L1, hP, hb1⟩; have hS1 := hb1.size; simp only [World.size_alloc] at hS1; have B1w : Below w.heap.size w (w1.alloc (.cells #[.slice A1 n c1, .slice B1 m d1] 25)) := (hBW.trans (hb1.mono hBW.size)).alloc (by omega) _; have L1' := L1.below ((Below.refl _ _).alloc (Nat.le_refl _) (.cells #[.slice A1 n c1, .slice B1 m d1] 25)); have bx1 := Blk.new w1 #[.slice A1 n c1, .slice B1 m d1] 25; have b01 := (b0.kp (Kp.of_below (P := fun _ => False) hb1) id).alloc (.cells #[.slice A1 n c1, .slice B1 m d1] 25); have f01 := b01.c 0; have f02 := b01.c 1; dsimp at f01; dsimp at f02)
    | (go_at_call 18; (with_reducible refine (refEncN A B c d n m st HN.out HM.out _ (hr.mono B1w) (hs.mono B1w) (by omega)).mono ?_); rintro e w2 ⟨rfl, hb2⟩; have L2 := L1'.below hb2; have K2 := Kp.of_below (P := fun _ => False) hb2; have bx2 := bx1.kp K2 id; have b02 := b01.kp K2 id; have f21 := bx2.c 0; have f22 := bx2.c 1; dsimp at f21; dsimp at f22; have B2w := B1w.trans (hb2.mono B1w.size))
    | (go_at_call 19; (with_reducible refine (dvvEncN A1 B1 c1 d1 n m st HN.out HM.out _ L2.rd.1 L2.rd.2 (by omega) (by omega) L2.lt).mono ?_); rintro e w3 ⟨rfl, hb3⟩; have L3 := L2.below hb3; have K3 := Kp.of_below (P := fun _ => False) hb3; have bx3 := bx2.kp K3 id; have b03 := b02.kp K3 id; have f31 := bx3.c 0; have f32 := bx3.c 1; have f33 := b03.c 0; have f34 := b03.c 1; dsimp at f31; dsimp at f32; dsimp at f33; dsimp at f34; have B3w := B2w.trans (hb3.mono B2w.size))
    | (go_at_call 20; (with_reducible refine (keptN P1 P2 A B A1 B1 c d c1 d1 n m st _ L3 (hr.mono B3w) (hs.mono B3w) hn hm).mono ?_); rintro e w4 ⟨rfl, hb4⟩; have L4 := L3.below hb4; have K4 := Kp.of_below (P := fun _ => False) hb4; have bx4 := bx3.kp K4 id; have f41 := bx4.c 0; have f42 := bx4.c 1; dsimp at f41; dsimp at f42; have B4w := B3w.trans (hb4.mono B3w.size); have hx4 := bx4.lt)
    | (go_at_call 21; (with_reducible refine (overN P1 P2 A1 B1 c1 d1 n m st _ L4 (fun k h => by have := hP k h; omega) hn hm).mono ?_); rintro e w5 ⟨rfl, st', g1, g2, rd5, rs5, K5⟩; have bx5 := bx4.kp K5 (fun h => by have := hP _ h; omega); have f51 := bx5.c 0; have f52 := bx5.c 1; dsimp at f51; dsimp at f52; have hS5 := K5.size; have l4 := L4.lt)
    | (go_at_call 22; (with_reducible refine (twinN A1 B1 c1 d1 n m st' g1 g2 _ rd5 rs5 hn hm).mono ?_); rintro e w6 ⟨A2, B2, c2, d2, rfl, rd6, rs6, hb6⟩; have bx6 := bx5.kp (Kp.of_below (P := fun _ => False) hb6) id)
    | (go_at_call 18; (with_reducible refine (refEncN A2 B2 c2 d2 n m st' g1 g2 _ rd6 rs6 (by omega)).mono ?_); rintro e w7 ⟨rfl, hb7⟩; have bx7 := bx6.kp (Kp.of_below (P := fun _ => False) hb7) id; have f71 := bx7.c 0; have f72 := bx7.c 1; dsimp at f71; dsimp at f72; have hb57 := below_of hb6 hb7; have hS7 := hb57.size)
    | (go_at_call 19; (with_reducible refine (dvvEncN A1 B1 c1 d1 n m st' g1 g2 _ (rd5.mono hb57) (rs5.mono hb57) (by omega) (by omega) (fun a ha => by have := l4 a ha; omega)).mono ?_); rintro e w8 ⟨rfl, hb8⟩)
    | (go_at_call 23; (with_reducible refine (HR.out w8).mono ?_); rintro e w9 ⟨A3, B3, c3, d3, rfl, oA9, oB9, hb9⟩; have b9 := Blk.new w9 #[.slice A3 t.seen.length c3, .slice B3 t.sibs.length d3] 25; have HD9 := Lib.hid (HD.out (w9.alloc (.cells #[.slice A3 t.seen.length c3, .slice B3 t.sibs.length d3] 25))); have oA9' := oA9.alloc (.cells #[.slice A3 t.seen.length c3, .slice B3 t.sibs.length d3] 25); have oB9' := oB9.alloc (.cells #[.slice A3 t.seen.length c3, .slice B3 t.sibs.length d3] 25))
    | (go_at_call 24; (with_reducible refine HD9.out.mono ?_); rintro e w10 ⟨A4, B4, c4, d4, rfl, oA10, oB10, hb10⟩; have K10 := Kp.of_below (P := fun _ => False) hb10; have hS10 := hb10.size; simp only [World.size_alloc] at hS10 oA10 oB10; have b9' := (b9.kp K10 id).alloc (.cells #[.slice A4 t.seen.length c4, .slice B4 t.sibs.length d4] 25); have oA9a := (oA9'.below hb10).alloc (.cells #[.slice A4 t.seen.length c4, .slice B4 t.sibs.length d4] 25); have oB9a := (oB9'.below hb10).alloc (.cells #[.slice A4 t.seen.length c4, .slice B4 t.sibs.length d4] 25); obtain ⟨Q1, Q2, p1, p2, p3, p4, p5, p6⟩ := own_split oA10 oB10 (by decide); have ge9A := own_ge oA9; have ge9B := own_ge oB9; have b10 := Blk.new w10 #[.slice A4 t.seen.length c4, .slice B4 t.sibs.length d4] 25; have HD10 := Lib.hid (HD.out (w10.alloc (.cells #[.slice A4 t.seen.length c4, .slice B4 t.sibs.length d4] 25))); have oA10' := oA10.alloc (.cells #[.slice A4 t.seen.length c4, .slice B4 t.sibs.length d4] 25); have oB10' := oB10.alloc (.cells #[.slice A4 t.seen.length c4, .slice B4 t.sibs.length d4] 25))
    | (go_at_call 24; (with_reducible refine HD10.out.mono ?_); rintro e w11 ⟨A5, B5, c5, d5, rfl, oA11, oB11, hb11⟩; have K11 := Kp.of_below (P := fun _ => False) hb11; have hS11 := hb11.size; simp only [World.size_alloc] at hS11 oA11 oB11; have b9'' := (b9'.kp K11 id).alloc (.cells #[.slice A5 t.seen.length c5, .slice B5 t.sibs.length d5] 25); have b10' := (b10.kp K11 id).alloc (.cells #[.slice A5 t.seen.length c5, .slice B5 t.sibs.length d5] 25); have b11 := Blk.new w11 #[.slice A5 t.seen.length c5, .slice B5 t.sibs.length d5] 25; have oA9b := (oA9a.below hb11).alloc (.cells #[.slice A5 t.seen.length c5, .slice B5 t.sibs.length d5] 25); have oB9b := (oB9a.below hb11).alloc (.cells #[.slice A5 t.seen.length c5, .slice B5 t.sibs.length d5] 25); have oA10b := (oA10'.below hb11).alloc (.cells #[.slice A5 t.seen.length c5, .slice B5 t.sibs.length d5] 25); have oB10b := (oB10'.below hb11).alloc (.cells #[.slice A5 t.seen.length c5, .slice B5 t.sibs.length d5] 25); have oA11b := oA11.alloc (.cells #[.slice A5 t.seen.length c5, .slice B5 t.sibs.length d5] 25); have oB11b := oB11.alloc (.cells #[.slice A5 t.seen.length c5, .slice B5 t.sibs.length d5] 25); have f91 := b9''.c 0; have f92 := b9''.c 1; have f101 := b10'.c 0; have f102 := b10'.c 1; dsimp at f91; dsimp at f92; dsimp at f101; dsimp at f102; have f111 := b11.c 0; have f112 := b11.c 1; dsimp at f111; dsimp at f112; have ge11A := own_ge oA11; have ge11B := own_ge oB11)
    | (go_at_call 25; (with_reducible refine (refSame A4 B4 A3 B3 c4 d4 c3 d3 t t _ (own_rdD oA10b tw1) (own_rdS oB10b tw2) (own_rdD oA9b tw1) (own_rdS oB9b tw2) (by omega) (by omega) (by omega) (by omega)).mono ?_); rintro e w12 ⟨rfl, hb12⟩; rw [HS.out]; have K12 := Kp.of_below (P := fun _ => False) hb12; have b912 := b9''.kp K12 id; have b1012 := b10'.kp K12 id; have b1112 := b11.kp K12 id; have f121 := b912.c 0; have f122 := b912.c 1; have f123 := b1112.c 0; have f124 := b1112.c 1; dsimp at f121; dsimp at f122; dsimp at f123; dsimp at f124)
    | (go_at_call 25; (with_reducible refine (refSame A5 B5 A3 B3 c5 d5 c3 d3 t t _ ((own_rdD oA11b tw1).mono hb12) ((own_rdS oB11b tw2).mono hb12) ((own_rdD oA9b tw1).mono hb12) ((own_rdS oB9b tw2).mono hb12) (by omega) (by omega) (by omega) (by omega)).mono ?_); rintro e w13 ⟨rfl, hb13⟩; rw [HS.out]; have K13 := Kp.of_below (P := fun _ => False) hb13; have b913 := b912.kp K13 id; have b1013 := b1012.kp K13 id; have b1113 := b1112.kp K13 id; have f131 := b913.c 0; have f132 := b913.c 1; have f133 := b1013.c 0; have f134 := b1013.c 1; have f135 := b1113.c 0; have f136 := b1113.c 1; dsimp at f131; dsimp at f132; dsimp at f133; dsimp at f134; dsimp at f135; dsimp at f136; have hb1113 := below_of hb12 hb13)
    | (go_at_call 26; (refine (lawFresh Q1 Q2 A4 B4 A5 B5 A3 B3 c4 d4 c5 d5 c3 d3 t w13 tw1 tw2 ?oa ?ob p3 ?hP ((own_rdD oA11b tw1).mono hb1113) ((own_rdS oB11b tw2).mono hb1113) ((own_rdD oA9b tw1).mono hb1113) ((own_rdS oB9b tw2).mono hb1113) ?n1 ?n2 ?n3 ?n4 (by omega) (by omega)).mono ?_); (case oa => exact ((((p1.alloc _).below hb11).alloc _).below hb1113)); (case ob => exact ((((p2.alloc _).below hb11).alloc _).below hb1113)); (case hP => intro k hk; have h1 := p6 k hk; have h2 := hb1113.size; simp only [World.size_alloc] at h2; omega); (case n1 => intro a ha h; have h1 := p6 _ h; have h2 := (ge11A a ha).1; omega); (case n2 => intro a ha h; have h1 := p6 _ h; have h2 := (ge11B a ha).1; omega); (case n3 => intro a ha h; have h1 := h.elim (p4 _) (p5 _); have h2 := (ge9A a ha).2; omega); (case n4 => intro a ha h; have h1 := h.elim (p4 _) (p5 _); have h2 := (ge9B a ha).2; omega); rintro e w14 ⟨rfl, K14⟩))
  go_ret
  refine ⟨rfl, ?_⟩
  have k5 : Below w.heap.size w w5 := B4w.trans (K5.below B4w.size (fun i hi => by have := (hP i hi).1; simp only [World.size_alloc] at this; omega))
  have k8 : Below w.heap.size w w8 := k5.trans ((below_of hb57 hb8).mono k5.size)
  have k9 : Below w.heap.size w w9 := k8.trans (hb9.mono k8.size)
  have k10 := (k9.alloc k9.size _).trans (hb10.mono (k9.alloc k9.size _).size)
  have k11 := (k10.alloc k10.size _).trans (hb11.mono (k10.alloc k10.size _).size)
  have k13 := (k11.alloc k11.size _).trans (hb1113.mono (k11.alloc k11.size _).size)
  exact k13.trans (K14.below k13.size (fun i hi => by have h1 := hi.elim (p4 _) (p5 _); have h2 := k9.size; omega))
end Go.Proofs.Ytfdiedcleggfnaa
