/- ObjectCells, walked. -/
import Derived.Test.YtfdiedcleggfnaaObj8
namespace Go.Proofs.Ytfdiedcleggfnaa
open Go.RowKit Go.Sort

theorem unpSt_wf (K V : ByteArray) : (∀ d ∈ (unpSt K V).seen, dotWf d) ∧ (∀ x ∈ (unpSt K V).sibs, sibWf x) ∧ (unpSt K V).seen.length ≤ 64 ∧ (unpSt K V).sibs.length ≤ 64 := by
  unfold unpSt
  split
  · exact decSt_wf V
  · simp

set_option maxRecDepth 100000 in
set_option maxHeartbeats 2000000 in
theorem lawObjectCells (K V : ByteArray) (w : World) (hK : K.size ≤ 140737488351232) (hV : V.size ≤ 140737488351232) :
    Calls Try.prog 5 #[.agg #[.string K, .string V]] w fun e w' => e = .returned (.bool true) ∧ Below w.heap.size w w' := by
  have hB0 := Below.refl w.heap.size w
  have b0 := Blk.new w #[.string K, .string V] 57
  have hBW := hB0.alloc (Nat.le_refl _) (.cells #[.string K, .string V] 57)
  have hR := fun W => refUnpack K V W hK hV
  have hU := fun W => objUnpack K V W hK hV
  obtain ⟨tw1, tw2, tl1, tl2⟩ := unpSt_wf K V
  unfold UnpPost at hR hU
  generalize unpSt K V = t at *
  generalize unpE K V = er at *
  generalize unpK K V = k at *
  have HR := Lib.hid (hR (w.alloc (.cells #[.string K, .string V] 57)))
  have HU := Lib.hid hU
  clear hR hU
  have hge : (40 : Int) ≤ (t.seen.length : Int) + t.sibs.length + 40 := by omega
  go_enter Try.func5, Try.ntmps5
  go_wp2_with (first
    | (go_at_call 38; refine HR.out.mono ?_; rintro e w1 ⟨A1, B1, c1, d1, rfl, oA1, oB1, hb1⟩; have b1 := Blk.new w1 #[.string k, .slice A1 t.seen.length c1, .slice B1 t.sibs.length d1] 37; have b01 := (b0.kp (Kp.of_below (P := fun _ => False) hb1) id).alloc (.cells #[.string k, .slice A1 t.seen.length c1, .slice B1 t.sibs.length d1] 37); have f01 := b01.c 0; have f02 := b01.c 1; dsimp at f01; dsimp at f02; have x1 := oA1.alloc (.cells #[.string k, .slice A1 t.seen.length c1, .slice B1 t.sibs.length d1] 37); have y1 := oB1.alloc (.cells #[.string k, .slice A1 t.seen.length c1, .slice B1 t.sibs.length d1] 37); have HU1 := Lib.hid (HU.out (w1.alloc (.cells #[.string k, .slice A1 t.seen.length c1, .slice B1 t.sibs.length d1] 37))))
    | (go_at_call 39; refine HU1.out.mono ?_; rintro e w2 ⟨A2, B2, c2, d2, rfl, oA2, oB2, hb2⟩; have K2 := Kp.of_below (P := fun _ => False) hb2; have b2 := Blk.new w2 #[.string k, .slice A2 t.seen.length c2, .slice B2 t.sibs.length d2] 37; have b02 := (b01.kp K2 id).alloc (.cells #[.string k, .slice A2 t.seen.length c2, .slice B2 t.sibs.length d2] 37); have b12 := (b1.kp K2 id).alloc (.cells #[.string k, .slice A2 t.seen.length c2, .slice B2 t.sibs.length d2] 37); have f21 := b02.c 0; have f22 := b02.c 1; dsimp at f21; dsimp at f22; have x12 := (x1.below hb2).alloc (.cells #[.string k, .slice A2 t.seen.length c2, .slice B2 t.sibs.length d2] 37); have y12 := (y1.below hb2).alloc (.cells #[.string k, .slice A2 t.seen.length c2, .slice B2 t.sibs.length d2] 37); obtain ⟨Q1, Q2, p1, p2, p3, p4, p5, p6⟩ := own_split oA2 oB2 (by decide); have x2 := p1.alloc (.cells #[.string k, .slice A2 t.seen.length c2, .slice B2 t.sibs.length d2] 37); have y2 := p2.alloc (.cells #[.string k, .slice A2 t.seen.length c2, .slice B2 t.sibs.length d2] 37); have HU2 := Lib.hid (HU.out (w2.alloc (.cells #[.string k, .slice A2 t.seen.length c2, .slice B2 t.sibs.length d2] 37))))
    | (go_at_call 39; refine HU2.out.mono ?_; rintro e w3 ⟨A3, B3, c3, d3, rfl, oA3, oB3, hb3⟩; have K3 := Kp.of_below (P := fun _ => False) hb3; have b3 := Blk.new w3 #[.string k, .slice A3 t.seen.length c3, .slice B3 t.sibs.length d3] 37; have b13 := (b12.kp K3 id).alloc (.cells #[.string k, .slice A3 t.seen.length c3, .slice B3 t.sibs.length d3] 37); have b23 := (b2.kp K3 id).alloc (.cells #[.string k, .slice A3 t.seen.length c3, .slice B3 t.sibs.length d3] 37); have x13 := (x12.below hb3).alloc (.cells #[.string k, .slice A3 t.seen.length c3, .slice B3 t.sibs.length d3] 37); have y13 := (y12.below hb3).alloc (.cells #[.string k, .slice A3 t.seen.length c3, .slice B3 t.sibs.length d3] 37); have x23 := (x2.below hb3).alloc (.cells #[.string k, .slice A3 t.seen.length c3, .slice B3 t.sibs.length d3] 37); have y23 := (y2.below hb3).alloc (.cells #[.string k, .slice A3 t.seen.length c3, .slice B3 t.sibs.length d3] 37); have x3 := oA3.alloc (.cells #[.string k, .slice A3 t.seen.length c3, .slice B3 t.sibs.length d3] 37); have y3 := oB3.alloc (.cells #[.string k, .slice A3 t.seen.length c3, .slice B3 t.sibs.length d3] 37); have h10 := b13.c 0; have h11 := b13.c 1; have h12 := b13.c 2; have h20 := b23.c 0; have h21 := b23.c 1; have h22 := b23.c 2; dsimp at h10; dsimp at h11; dsimp at h12; dsimp at h20; dsimp at h21; dsimp at h22)
    | (go_at_call 36; (with_reducible refine (law13Same k A2 B2 A1 B1 c2 d2 c1 d1 t _ (own_rdD x23 tw1) (own_rdS y23 tw2) (own_rdD x13 tw1) (own_rdS y13 tw2) (by omega) (by omega)).mono ?_); rintro e w4 ⟨rfl, hb4⟩; have K4 := Kp.of_below (P := fun _ => False) hb4; have b14 := b13.kp K4 id; have b24 := b23.kp K4 id; have b34 := b3.kp K4 id; have i10 := b14.c 0; have i11 := b14.c 1; have i12 := b14.c 2; have i30 := b34.c 0; have i31 := b34.c 1; have i32 := b34.c 2; dsimp at i10; dsimp at i11; dsimp at i12; dsimp at i30; dsimp at i31; dsimp at i32)
    | (go_at_call 36; (with_reducible refine (law13Same k A3 B3 A1 B1 c3 d3 c1 d1 t _ ((own_rdD x3 tw1).mono hb4) ((own_rdS y3 tw2).mono hb4) ((own_rdD x13 tw1).mono hb4) ((own_rdS y13 tw2).mono hb4) (by omega) (by omega)).mono ?_); rintro e w5 ⟨rfl, hb5⟩; have K5 := Kp.of_below (P := fun _ => False) hb5; have b15 := b14.kp K5 id; have b25 := b24.kp K5 id; have b35 := b34.kp K5 id; have j20 := b25.c 0; have j21 := b25.c 1; have j22 := b25.c 2; dsimp at j20; dsimp at j21; dsimp at j22; have hb45 := below_of hb4 hb5; have s2 := hb2.size; have s3 := hb3.size; have s45 := hb45.size; simp only [World.size_alloc] at s2 s3 s45 p4 p5; have ge1A := own_ge oA1; have ge1B := own_ge oB1; have ge3A := own_ge oA3; have ge3B := own_ge oB3; simp only [World.size_alloc] at ge3A ge3B; have n1 : ¬ (Q1 w1.heap.size ∨ Q2 w1.heap.size) := (fun h => (by have h1 := h.elim (p4 _) (p5 _); omega)); have n3 : ¬ (Q1 w3.heap.size ∨ Q2 w3.heap.size) := (fun h => (by have h1 := p6 _ h; omega)))
    | (go_at_call 31; (with_reducible refine (law13Spoil Q1 Q2 k ⟨#[126]⟩ A2 B2 c2 d2 t.seen.length t.sibs.length _ _ w5 (x23.below hb45) (y23.below hb45) p3 (by omega) (by omega)).mono ?_); rintro e w6 ⟨rfl, K6⟩; have b16 := b15.kp K6 n1; have b36 := b35.kp K6 n3; have k10 := b16.c 0; have k11 := b16.c 1; have k12 := b16.c 2; have k30 := b36.c 0; have k31 := b36.c 1; have k32 := b36.c 2; dsimp at k10; dsimp at k11; dsimp at k12; dsimp at k30; dsimp at k31; dsimp at k32)
    | (go_at_call 36; (refine (law13Same k A3 B3 A1 B1 c3 d3 c1 d1 t _ ⟨((own_rdD x3 tw1).mono hb45).1.kp K6 ?q1, tw1⟩ ⟨((own_rdS y3 tw2).mono hb45).1.kp K6 ?q2, tw2⟩ ⟨((own_rdD x13 tw1).mono hb45).1.kp K6 ?q3, tw1⟩ ⟨((own_rdS y13 tw2).mono hb45).1.kp K6 ?q4, tw2⟩ (by omega) (by omega)).mono ?_); (case q1 => intro a ha h; have h1 := p6 _ h; have h2 := (ge3A a ha).1; omega); (case q2 => intro a ha h; have h1 := p6 _ h; have h2 := (ge3B a ha).1; omega); (case q3 => intro a ha h; have h1 := h.elim (p4 _) (p5 _); have h2 := (ge1A a ha).2; omega); (case q4 => intro a ha h; have h1 := h.elim (p4 _) (p5 _); have h2 := (ge1B a ha).2; omega); rintro e w7 ⟨rfl, hb7⟩))
  go_ret
  refine ⟨rfl, ?_⟩
  have q1 := hBW.trans (hb1.mono hBW.size)
  have q2 := (q1.alloc q1.size _).trans (hb2.mono (q1.alloc q1.size _).size)
  have q3 := (q2.alloc q2.size _).trans (hb3.mono (q2.alloc q2.size _).size)
  have q5 := (q3.alloc q3.size _).trans (hb45.mono (q3.alloc q3.size _).size)
  have q6 := q5.trans (K6.below q5.size (fun i hi => (by have h1 := hi.elim (p4 _) (p5 _); have h2 := q1.size; omega)))
  exact q6.trans (hb7.mono q6.size)
end Go.Proofs.Ytfdiedcleggfnaa
