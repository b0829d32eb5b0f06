/- The wire package's Writer, function by function. -/
import Derived.Test.YtfdiedcleggfnaaBase
import Derived.Outline
namespace Go.Proofs.Ytfdiedcleggfnaa
open Go.RowKit

theorem infoU8 : (Try.prog.info? 5).map (fun i => (i.zero, i.size, i.bytes)) = some (some (.int .u8 0), 1, 1) := by kernel_rfl

/-- A Writer at block g that holds the bytes bs; its blocks are of P. -/
def IsW (w : World) (P : Nat → Prop) (g : Nat) (bs : List UInt8) : Prop :=
  P g ∧ (∀ k, P k → k < w.heap.size) ∧ ∃ v, w.heap[g]? = some (.cells #[v] 244 (0, 0)) ∧ Own w (fun k => P k ∧ k ≠ g) 5 1 v bs.length (vals bs)

/-- What a call of a Writer's method leaves: the bytes, and all other blocks. -/
def WPost (P : Nat → Prop) (g : Nat) (bs : List UInt8) (w : World) (e : Ending) (w' : World) : Prop :=
  e = .returned (.tuple #[]) ∧ IsW w' (Ext P w w') g bs ∧ Kp P w w'

/-- One append into a Writer's bytes, and the store into its field. -/
theorem IsW.step {w w0 w1 : World} {P : Nat → Prop} {g g1 n n' c cap : Nat} {A : Option Addr} {bs bs' : List UInt8} (hPg : P g) (hP : ∀ k, P k → k < w.heap.size)
    (hg : w.heap[g]? = some (.cells #[.slice A n c] 244 (0, 0))) (hv : Own w (fun k => P k ∧ k ≠ g) 5 1 (.slice A n c) bs.length (vals bs))
    (hw0 : Kp (fun _ => False) w w0) (hown : w1.ownsRow 0 5 1 (.slice (some ⟨g1, 0, none⟩) n' cap) bs'.length (vals bs'))
    (hgrow : w0.grownBy w1 (Value.ownBlock (.slice A n c))) (hat : Value.ownBlock (.slice A n c) = some g1 ∨ g1 = w0.heap.size) (hlt : g1 < w1.heap.size) :
    w1.cell? ⟨g, 0, none⟩ = some (.slice A n c) ∧ w1.frozen? ⟨g, 0, none⟩ = false ∧
    IsW (w1.setCell ⟨g, 0, none⟩ (.slice (some ⟨g1, 0, none⟩) n' cap)) (Ext P w (w1.setCell ⟨g, 0, none⟩ (.slice (some ⟨g1, 0, none⟩) n' cap))) g bs' ∧
    Kp P w (w1.setCell ⟨g, 0, none⟩ (.slice (some ⟨g1, 0, none⟩) n' cap)) := by
  have hgl := lt_of_heap hg
  have hne : ∀ k, Value.ownBlock (.slice A n c) = some k → P k ∧ k ≠ g := hv.2
  have h1 : w1.heap[g]? = some (.cells #[.slice A n c] 244 (0, 0)) :=
    ((hgrow.block g (Nat.lt_of_lt_of_le hgl hw0.size) (fun e => (hne g e.symm).2 rfl)).trans (hw0.block g hgl id)).trans hg
  have hk : Kp P w w1 := (hw0.mono (fun _ _ => False.elim)).grown hgrow (fun k e => .inl (hne k e).1)
  have hg1 : g1 ≠ g ∧ (P g1 ∨ w.heap.size ≤ g1) := by
    rcases hat with e | e
    · exact ⟨(hne _ e).2, .inl (hne _ e).1⟩
    · have := hw0.size; exact ⟨by omega, .inr (by omega)⟩
  have hsz : ∀ u, (w1.setCell ⟨g, 0, none⟩ u).heap.size = w1.heap.size := fun u => by simp [World.setCell]
  unfold Ext
  rw [hsz]
  refine ⟨by rw [cell_of_row w1 g 0 _ _ _ h1]; rfl, by simp [World.frozen?, h1], ⟨.inl hPg, ?_, .slice (some ⟨g1, 0, none⟩) n' cap, ?_, ?_⟩, hk.set (.inl hPg) _⟩
  · intro k hk'
    have hs := hk.size
    rcases hk' with hk' | hk'
    · have := hP k hk'; rw [hsz]; omega
    · rw [hsz]; exact hk'.2
  · simp only [World.setCell, Array.getElem?_modify]
    simp [h1]
  · refine Own.set (P := fun k => (P k ∨ w.heap.size ≤ k ∧ k < w1.heap.size) ∧ k ≠ g) ⟨hown, fun k e => ?_⟩ (fun h => h.2 rfl) _
    have : g1 = k := by simpa [Value.ownBlock] using e
    subst this
    exact ⟨hg1.2.imp id (fun h => ⟨h, hlt⟩), hg1.1⟩

/-- What a walk wants of a Writer at its field. -/
theorem IsW.open_ {w : World} {P : Nat → Prop} {g : Nat} {bs : List UInt8} (h : IsW w P g bs) : P g ∧ (∀ k, P k → k < w.heap.size) ∧ ∃ A c, w.heap[g]? = some (.cells #[.slice A bs.length c] 244 (0, 0)) ∧
    Own w (fun k => P k ∧ k ≠ g) 5 1 (.slice A bs.length c) bs.length (vals bs) ∧ w.cell? ⟨g, 0, none⟩ = some (.slice A bs.length c) ∧ w.frozen? ⟨g, 0, none⟩ = false ∧ g < w.heap.size := by
  obtain ⟨hPg, hP, v, hg, hv⟩ := h
  obtain ⟨A, c, rfl⟩ := hv.form
  exact ⟨hPg, hP, A, c, hg, hv, by rw [cell_of_row w g 0 _ _ _ hg]; rfl, by simp [World.frozen?, hg], lt_of_heap hg⟩

set_option maxRecDepth 100000 in
set_option maxHeartbeats 1000000 in
theorem writerByte (P : Nat → Prop) (g : Nat) (bs : List UInt8) (b : Int) (x : UInt8) (hb : b = x.toNat) (w : World) (h : IsW w P g bs) (hl : bs.length < 1000000000) :
    Calls Try.prog 102 #[.pointer (some ⟨g, 0, none⟩), .int .u8 b] w (WPost P g (bs ++ [x]) w) := by
  obtain ⟨hPg, hP, A, c, hg, hv, hcell, hfr, hgl⟩ := h.open_
  obtain ⟨i0, hi, hz0, hz1, hz2⟩ := info_parts infoU8
  have HG := Lib.hid hg
  have HB := Lib.hid hb
  clear hg h hb
  go_enter Try.func102, Try.ntmps102
  go_wp2_with (at_builtin; refine wpList_append_lies _ rfl (.tmp 10) (.tmp 12) 210 rfl 0 5 i0 (.int .u8 0) 1 1 Try.underlying210 hi hz0 hz1 hz2 rfl (by decide) _ _ _ rfl (hv.alloc _).1 ⟨w.heap.size, 0, none⟩ 1 1 [.int .u8 b] rfl rfl (World.news_of_block (heap_alloc_new w _)) (by simp [Value.oneCell']) (by decide) ?c3 ?c4 (Nat.zero_le _) _ rfl ?_; (case c3 => unfold maxLen; omega); (case c4 => omega); intro g1 cap w1 hown hgrow hat hlt; obtain ⟨hc1, hf1, hw2, hk2⟩ := IsW.step (bs' := bs ++ [x]) hPg hP HG.out hv ((Kp.refl _ w).alloc _) (by simpa [vals_append, vals, HB.out] using hown) hgrow hat hlt; clear hown hgrow hat)
  go_end0
  exact ⟨rfl, hw2, hk2⟩

theorem IsW.ext {P : Nat → Prop} {a b c : World} {g : Nat} {bs : List UInt8} (h : IsW c (Ext (Ext P a b) b c) g bs) (h1 : a.heap.size ≤ b.heap.size) (h2 : b.heap.size ≤ c.heap.size) : IsW c (Ext P a c) g bs := by
  obtain ⟨hg, hP, v, hh, hv⟩ := h
  exact ⟨(Ext.ext h1 h2 _).1 hg, fun k hk => hP k ((Ext.ext h1 h2 _).2 hk), v, hh, hv.mono (fun k _ hk => ⟨(Ext.ext h1 h2 _).1 hk.1, hk.2⟩)⟩
theorem IsW.start {P : Nat → Prop} {w : World} {g : Nat} {bs : List UInt8} (h : IsW w P g bs) : IsW w (Ext P w w) g bs := by
  obtain ⟨hg, hP, v, hh, hv⟩ := h
  exact ⟨.inl hg, fun k hk => by rcases hk with hk | hk; exact hP k hk; omega, v, hh, hv.mono (fun k _ hk => ⟨.inl hk.1, hk.2⟩)⟩

/-- A number's bytes to the base 128. -/
def uintB (n : Nat) : List UInt8 := if n < 128 then [UInt8.ofNat n] else UInt8.ofNat (n % 128 + 128) :: uintB (n / 128)
termination_by n
decreasing_by omega
theorem or128 (v : Nat) : Go.bits .or .u8 ((v : Int) % 256) 128 = ((UInt8.ofNat (v % 128 + 128)).toNat : Int) := by
  have h : ∀ m : Fin 256, Go.bits .or .u8 ((m.val : Nat) : Int) 128 = ((UInt8.ofNat (m.val % 128 + 128)).toNat : Int) := by decide +kernel
  have := h ⟨v % 256, by omega⟩
  simp only [show v % 256 % 128 = v % 128 by omega] at this
  rw [← this]; simp

set_option maxRecDepth 100000 in
set_option maxHeartbeats 1000000 in
theorem writerUint (P : Nat → Prop) (g : Nat) (bs : List UInt8) (b : Int) (x : Nat) (hb : b = x) (hx : (x : Int) ≤ 18446744073709551615) (w : World) (h : IsW w P g bs) (hl : bs.length + (uintB x).length < 1000000000) :
    Calls Try.prog 101 #[.pointer (some ⟨g, 0, none⟩), .int .u64 b] w (WPost P g (bs ++ uintB x) w) := by
  subst hb
  have HL := Lib.hid hl
  have hgl : g < w.heap.size := h.2.1 g h.1
  clear hl
  go_enter Try.func101, Try.ntmps101
  go_wp2
  go_loopw [1] (fun v W => ∃ (m : Nat) (cur : List UInt8), v = .int .u64 m ∧ (m : Int) ≤ 18446744073709551615 ∧ IsW W (Ext P w W) g cur ∧ Hid (cur ++ uintB m = bs ++ uintB x) ∧ Kp P w W) (fun v _ => (intOf v).toNat)
  case atStart => exact ⟨x, bs, rfl, hx, h.start, rfl, Kp.refl _ _⟩
  case round =>
    obtain ⟨m, cur, rfl, hm, hW, hpre, hk⟩ := hrel
    have hlen : cur.length < 1000000000 := by
      have h1 := HL.out; have h2 := congrArg List.length hpre.out; simp only [List.length_append] at h2; omega
    obtain ⟨hPg, hP, A, c, hg, hv, hcell, hfr, hgl'⟩ := hW.open_
    obtain ⟨i0, hi, hz0, hz1, hz2⟩ := info_parts infoU8
    have HG := Lib.hid hg
    clear hg
    by_cases h128 : 128 ≤ m
    · have h2 : Hid (uintB m = UInt8.ofNat (m % 128 + 128) :: uintB (m / 128)) := by unfold Hid; rw [uintB, if_neg (by omega)]
      go_wp2_with (at_builtin; refine wpList_append_lies _ rfl (.tmp 12) (.tmp 16) 210 rfl 0 5 i0 (.int .u8 0) 1 1 Try.underlying210 hi hz0 hz1 hz2 rfl (by decide) _ _ _ rfl (hv.alloc _).1 ⟨wr.heap.size, 0, none⟩ 1 1 [.int .u8 (Go.bits .or .u8 ((m : Int) % 256) 128)] rfl rfl (World.news_of_block (heap_alloc_new wr _)) (by simp [Value.oneCell']) (by decide) ?c3 ?c4 (Nat.zero_le _) _ rfl ?_; (case c3 => unfold maxLen; omega); (case c4 => omega); intro g1 cap w1 hown hgrow hat hlt; obtain ⟨hc1, hf1, hw2, hk2⟩ := IsW.step (bs' := cur ++ [UInt8.ofNat (m % 128 + 128)]) hPg hP HG.out hv ((Kp.refl _ wr).alloc _) (by simpa [vals_append, vals, or128] using hown) hgrow hat hlt; clear hown hgrow hat)
      go_roundw
      case rel => exact ⟨m / 128, cur ++ [UInt8.ofNat (m % 128 + 128)], by go_num, by omega, hw2.ext hk.size hk2.size, by have := hpre.out; rw [h2.out] at this; simpa [Hid] using this, hk.ext hk2⟩
      case measure => simp [intOf]; omega
    · have h2 : Hid (uintB m = [UInt8.ofNat m]) := by unfold Hid; rw [uintB, if_pos (by omega)]
      have h3 : Hid (vals (cur ++ [UInt8.ofNat m]) = vals cur ++ [Value.int .u8 (m : Int)]) := by unfold Hid; simp [vals]; omega
      go_wp2_with (at_builtin; refine wpList_append_lies _ rfl (.tmp 26) (.tmp 29) 210 rfl 0 5 i0 (.int .u8 0) 1 1 Try.underlying210 hi hz0 hz1 hz2 rfl (by decide) _ _ _ rfl (hv.alloc _).1 ⟨wr.heap.size, 0, none⟩ 1 1 [.int .u8 m] rfl rfl (World.news_of_block (heap_alloc_new wr _)) (by simp [Value.oneCell']) (by decide) ?c3 ?c4 (Nat.zero_le _) _ rfl ?_; (case c3 => unfold maxLen; omega); (case c4 => omega); intro g1 cap w1 hown hgrow hat hlt; obtain ⟨hc1, hf1, hw2, hk2⟩ := IsW.step (bs' := cur ++ [UInt8.ofNat m]) hPg hP HG.out hv ((Kp.refl _ wr).alloc _) (by rw [h3.out]; simpa using hown) hgrow hat hlt; clear hown hgrow hat)
      go_end0
      refine ⟨rfl, ?_, hk.ext hk2⟩
      have := hpre.out; rw [h2.out] at this; rw [← this]
      exact hw2.ext hk.size hk2.size
end Go.Proofs.Ytfdiedcleggfnaa
