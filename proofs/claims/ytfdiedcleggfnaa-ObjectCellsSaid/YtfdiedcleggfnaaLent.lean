/- What the law does to lists, on: lent, kept. -/
import Derived.Test.YtfdiedcleggfnaaFresh
namespace Go.Proofs.Ytfdiedcleggfnaa
open Go.RowKit Go.Sort

def marksD : Nat → List Dot
  | 0 => []
  | k + 1 => marksD k ++ [⟨7777, (k : Int)⟩]
def markS (k : Nat) : Sib := ⟨⟨0, (k : Int)⟩, false, ⟨#[109, 97, 114, 107]⟩⟩
def marksS : Nat → List Sib
  | 0 => []
  | k + 1 => marksS k ++ [markS k]
theorem marksD_len (k : Nat) : (marksD k).length = k := by induction k with | zero => rfl | succ k ih => simp [marksD, ih]
theorem marksS_len (k : Nat) : (marksS k).length = k := by induction k with | zero => rfl | succ k ih => simp [marksS, ih]
/-- What 'lent' leaves: the state in memory of its own, marks behind its lists. -/
def LentPost (st : St) (w : World) (e : Ending) (w' : World) : Prop :=
  ∃ (A B : Option Addr) (c d : Nat), e = .returned (.agg #[.slice A st.seen.length c, .slice B st.sibs.length d]) ∧
    Own w' (fun k => w.heap.size ≤ k) 50 2 (.slice A (st.seen.length + 70) c) (st.seen.length + 70) (((st.seen ++ marksD 70).map dotV).flatten) ∧
    Own w' (fun k => w.heap.size ≤ k) 145 4 (.slice B (st.sibs.length + 70) d) (st.sibs.length + 70) (((st.sibs ++ marksS 70).map sibV).flatten) ∧ Below w.heap.size w w'
theorem Own.cap {w : World} {P : Nat → Prop} {e : TypeId} {sz n c : Nat} {A : Option Addr} {cs : List Value} (h : Own w P e sz (.slice A n c) n cs) : n ≤ c := by
  rcases h.1.2 with ⟨h1, h0⟩ | ⟨k, cap, cur, hv, hb, hh, h1, _⟩
  · cases h1; omega
  · cases hv; exact h1

set_option maxRecDepth 100000 in
set_option maxHeartbeats 2000000 in
theorem lawLent (A B : Option Addr) (c d : Nat) (st : St) (w : World) (hr : RdD w A st.seen) (hs : RdS w B st.sibs) (hn : st.seen.length ≤ 8796093021952) (hm : st.sibs.length ≤ 3518437208780) :
    Calls Try.prog 17 #[.agg #[.slice A st.seen.length c, .slice B st.sibs.length d]] w (LentPost st w) := by
  obtain ⟨i0, hi, hz0, hz1, hz2⟩ := info_parts infoDot
  obtain ⟨i1, hi1, hy0, hy1, hy2⟩ := info_parts infoSib
  have hB0 := Below.refl w.heap.size w
  have b0 := (Blk.new w #[.slice A st.seen.length c, .slice B st.sibs.length d] 25).alloc (.cells #[.slice none 0 0, .slice none 0 0] 25)
  have b1 := Blk.new (w.alloc (.cells #[.slice A st.seen.length c, .slice B st.sibs.length d] 25)) #[.slice none 0 0, .slice none 0 0] 25
  have hBW : Below w.heap.size w ((w.alloc (.cells #[.slice A st.seen.length c, .slice B st.sibs.length d] 25)).alloc (.cells #[.slice none 0 0, .slice none 0 0] 25)) := (hB0.alloc (Nat.le_refl _) _).alloc (by simp) _
  simp only [World.size_alloc] at b1
  have hT := refTwin A B c d st _ (hr.mono hBW) (hs.mono hBW) hn hm
  unfold TwinPost at hT
  have HT := Lib.hid hT
  clear hT
  generalize hn' : st.seen.length = n at *
  generalize hm' : st.sibs.length = m at *
  have HN := Lib.hid hn'
  have HM := Lib.hid hm'
  clear hn' hm'
  go_enter Try.func17, Try.ntmps17
  go_wp2_with (go_at_call 22; refine HT.out.mono ?_; rintro e w2 ⟨A', B', c', d', rfl, oA, oB, hb2⟩)
  simp only [World.size_alloc] at oA oB hb2
  have hs2 := hb2.size
  simp only [World.size_alloc] at hs2
  have b02 : Blk w2 w.heap.size #[.slice A n c, .slice B m d] 25 := (hb2.block _ (by omega)).trans b0
  have b12 : Blk w2 (w.heap.size + 1) #[.slice none 0 0, .slice none 0 0] 25 := (hb2.block _ (by omega)).trans b1
  have hB2 : Below w.heap.size w w2 := hBW.trans (hb2.mono (by omega))
  have b03 := b02.alloc (.cells #[.slice A' n c', .slice B' m d'] 25)
  have b13 := b12.alloc (.cells #[.slice A' n c', .slice B' m d'] 25)
  have b23 := Blk.new w2 #[.slice A' n c', .slice B' m d'] 25
  have oA3 := (oA.mono (Q := fun i => w.heap.size + 1 < i ∧ i ≠ w2.heap.size) (fun k h1 h2 => by omega)).alloc (.cells #[.slice A' n c', .slice B' m d'] 25)
  have oB3 := (oB.mono (Q := fun i => w.heap.size + 1 < i ∧ i ≠ w2.heap.size) (fun k h1 h2 => by omega)).alloc (.cells #[.slice A' n c', .slice B' m d'] 25)
  have hB3 := hB2.alloc hB2.size (.cells #[.slice A' n c', .slice B' m d'] 25)
  generalize w2.heap.size = q at *
  have hq : w.heap.size + 1 < q := by omega
  go_loopw [4] (fun i W => ∃ (k : Nat) (A1 B1 : Option Addr) (c1 d1 : Nat), i = .int .i64 k ∧ k ≤ 70 ∧ Blk W q #[.slice A1 (n + k) c1, .slice B1 (m + k) d1] 25 ∧
    Own W (fun i => w.heap.size + 1 < i ∧ i ≠ q) 50 2 (.slice A1 (n + k) c1) (n + k) (((st.seen ++ marksD k).map dotV).flatten) ∧
    Own W (fun i => w.heap.size + 1 < i ∧ i ≠ q) 145 4 (.slice B1 (m + k) d1) (m + k) (((st.sibs ++ marksS k).map sibV).flatten) ∧
    Blk W w.heap.size #[.slice A n c, .slice B m d] 25 ∧ Blk W (w.heap.size + 1) #[.slice none 0 0, .slice none 0 0] 25 ∧ Below w.heap.size w W) (fun i _ => 70 - (intOf i).toNat)
  case atStart => exact ⟨0, A', B', c', d', rfl, by omega, b23, by simpa [marksD] using oA3, by simpa [marksS] using oB3, b03, b13, hB3⟩
  case round =>
    clear oA oB b02 b12 b03 b13 b23 oA3 oB3 hB3 hB2
    obtain ⟨k, A1, B1, c1, d1, rfl, hk, bq, oA, oB, bA, bR, hB⟩ := hrel
    have hS := hB.size
    have hql := bq.lt
    have q0 := bq.c 0
    have q1 := bq.c 1
    have g0 := bq.f 0
    have g1 := bq.f 1
    have a0 := bA.c 0
    have a1 := bA.c 1
    dsimp at q0 q1 a0 a1
    by_cases hlt : k < 70
    · go_wp2_with (first
        | (at_builtin; refine wpList_append_lies _ rfl (.tmp 12) (.tmp 16) 22 rfl 0 50 i0 (.agg #[.int .u32 0, .int .u64 0]) 2 16 Try.underlying22 hi hz0 hz1 hz2 rfl (by decide) _ _ _ rfl (oA.alloc _).1 ⟨wr.heap.size, 0, none⟩ 1 1 [.int .u32 7777, .int .u64 k] rfl rfl (World.news_of_block (heap_alloc_new wr _)) (by simp [Value.oneCell']) (by decide) ?c3 ?c4 (Nat.zero_le _) _ rfl ?_; (case c3 => unfold maxLen; omega); (case c4 => omega); intro x3 cap3 w3 hown hgrow hat hlt3; have oA3 := own_step (B := q + 1) oA hat (by omega) hown; have oB3 := own_keep oB oA (by decide) hgrow; have K3 : Kp (fun i => w.heap.size + 1 < i ∧ i ≠ q) wr w3 := ((Kp.refl _ wr).alloc _).grown hgrow (fun i h => .inl (oA.2 i h)); have bq3 := bq.kp K3 (fun h => h.2 rfl); have q03 := bq3.c 0; have q13 := bq3.c 1; have g03 := bq3.f 0; have g13 := bq3.f 1; dsimp at q03; dsimp at q13; have bq4 : Blk (w3.setCell ⟨q, 0, none⟩ (.slice (some ⟨x3, 0, none⟩) (n + k + 1) cap3)) q #[.slice (some ⟨x3, 0, none⟩) (n + k + 1) cap3, .slice B1 (m + k) d1] 25 := bq3.set 0 (.slice (some ⟨x3, 0, none⟩) (n + k + 1) cap3); have q04 := bq4.c 0; have q14 := bq4.c 1; have oB4 := oB3.set (p := ⟨q, 0, none⟩) (fun h => h.2 rfl) (.slice (some ⟨x3, 0, none⟩) (n + k + 1) cap3))
        | (at_builtin; (refine wpList_append_lies _ rfl (.tmp 20) (.tmp 25) 23 rfl 0 145 i1 (.agg #[.int .u32 0, .int .u64 0, .bool false, .string ⟨#[]⟩]) 4 40 Try.underlying23 hi1 hy0 hy1 hy2 rfl (by decide) _ _ _ rfl (oB4.alloc _).1 ⟨w3.heap.size, 0, none⟩ 1 1 [.int .u32 0, .int .u64 k, .bool false, .string ⟨#[109, 97, 114, 107]⟩] rfl rfl (World.news_of_block (heap_new_set w3 _ _ _)) (by simp [Value.oneCell']) (by decide) ?c5 ?c6 (Nat.zero_le _) _ rfl ?_); (case c5 => unfold maxLen; omega); (case c6 => omega); intro x4 cap4 w4 hown4 hgrow4 hat4 hlt4; have oA4 := oA3.set (p := ⟨q, 0, none⟩) (fun h => h.elim (fun h => h.2 rfl) (fun h => by have h9 : q + 1 ≤ q := h; omega)) (.slice (some ⟨x3, 0, none⟩) (n + k + 1) cap3); have K4 : Kp (fun i => w.heap.size + 1 < i ∧ i ≠ q) (w3.setCell ⟨q, 0, none⟩ (.slice (some ⟨x3, 0, none⟩) (n + k + 1) cap3)) w4 := ((Kp.refl _ _).alloc _).grown hgrow4 (fun i h => .inl (oB4.2 i h)); have bq5 := bq4.kp K4 (fun h => h.2 rfl); have q05 := bq5.c 0; have q15 := bq5.c 1; have g05 := bq5.f 0; have g15 := bq5.f 1; dsimp at q05; dsimp at q15))
      have oB5 := own_step (B := q + 1) oB4 hat4 (by have := K3.size; simp only [World.setCell, Array.size_modify]; omega) hown4
      have oA5 := own_keep oA4 oB4 (by decide) hgrow4
      go_roundw
      case rel =>
        refine ⟨k + 1, some ⟨x3, 0, none⟩, some ⟨x4, 0, none⟩, cap3, cap4, by go_num, by omega, bq5.set 1 _, ?_, ?_, ?_, ?_, ?_⟩
        · have := (oA5.set (p := ⟨q, 1, none⟩) (fun h => h.elim (fun h => h.2 rfl) (fun h => by have h9 : q + 1 ≤ q := h; omega)) (.slice (some ⟨x4, 0, none⟩) (m + k + 1) cap4)).mono (Q := fun i => w.heap.size + 1 < i ∧ i ≠ q) (fun i _ h => h.elim id (fun h => by omega))
          simpa [marksD, dotV, ← List.append_assoc, Nat.add_assoc] using this
        · have := (oB5.set (p := ⟨q, 1, none⟩) (fun h => h.elim (fun h => h.2 rfl) (fun h => by have h9 : q + 1 ≤ q := h; omega)) (.slice (some ⟨x4, 0, none⟩) (m + k + 1) cap4)).mono (Q := fun i => w.heap.size + 1 < i ∧ i ≠ q) (fun i _ h => h.elim id (fun h => by omega))
          simpa [marksS, markS, sibV, ← List.append_assoc, Nat.add_assoc] using this
        · exact (((bA.kp K3 (fun h => by omega)).setO _ _ (by simp only; omega)).kp K4 (fun h => by omega)).setO _ _ (by simp only; omega)
        · exact (((bR.kp K3 (fun h => by omega)).setO _ _ (by simp only; omega)).kp K4 (fun h => by omega)).setO _ _ (by simp only; omega)
        · have h3 : Below w.heap.size w w3 := hB.trans (K3.below hS (fun i h => by omega))
          have h4 := bl_set h3 (p := ⟨q, 0, none⟩) (by simp only; omega) (.slice (some ⟨x3, 0, none⟩) (n + k + 1) cap3)
          exact bl_set (h4.trans (K4.below h4.size (fun i h => by omega))) (by simp only; omega) _
      case measure => simp [intOf]; omega
    · obtain rfl : k = 70 := by omega
      have hc1 := oA.cap
      have hc2 := oB.cap
      obtain ⟨y1, rfl, -, -⟩ := oA.some_ (by omega)
      obtain ⟨y2, rfl, -, -⟩ := oB.some_ (by omega)
      have p1 : (0 : Int) ≤ (n : Int) := by omega
      have p2 : (n : Int) ≤ (c1 : Int) := by omega
      have p3 : (0 : Int) ≤ (m : Int) := by omega
      have p4 : (m : Int) ≤ (d1 : Int) := by omega
      have r0 := bR.c 0
      have r1 := bR.c 1
      have f0 := bR.f 0
      have f1 := bR.f 1
      dsimp at r0 r1
      go_wp2
      refine retSt1 (r := w.heap.size + 1) Try.results17 rfl rfl ((((bR.setO _ _ (by simp only; omega)).setO _ _ (by simp only; omega)).set 0 _).set 1 _) ?_
      unfold LentPost
      rw [HN.out, HM.out]
      refine ⟨some ⟨y1, 0, none⟩, some ⟨y2, 0, none⟩, c1, d1, rfl, ?_, ?_, ?_⟩
      · exact ((((oA.set (p := ⟨q, 0, none⟩) (fun h => h.2 rfl) _).set (p := ⟨q, 1, none⟩) (fun h => h.2 rfl) _).set (p := ⟨w.heap.size + 1, 0, none⟩) (fun h => by have := h.1; simp at this) _).set (p := ⟨w.heap.size + 1, 1, none⟩) (fun h => by have := h.1; simp at this) _).mono (fun i _ h => by omega)
      · exact ((((oB.set (p := ⟨q, 0, none⟩) (fun h => h.2 rfl) _).set (p := ⟨q, 1, none⟩) (fun h => h.2 rfl) _).set (p := ⟨w.heap.size + 1, 0, none⟩) (fun h => by have := h.1; simp at this) _).set (p := ⟨w.heap.size + 1, 1, none⟩) (fun h => by have := h.1; simp at this) _).mono (fun i _ h => by omega)
      · exact bl_set (bl_set (bl_set (bl_set hB (by simp only; omega) _) (by simp only; omega) _) (by simp) _) (by simp) _
end Go.Proofs.Ytfdiedcleggfnaa
