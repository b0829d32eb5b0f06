/- The reference's Take and Decode of states. -/
import Derived.Test.YtfdiedcleggfnaaDec1
namespace Go.Proofs.Ytfdiedcleggfnaa
open Go.RowKit Go.Sort
attribute [local go_sem] grow_cell

theorem retSt1 {fn : Func} {R : Ending → World → Prop} {a : Act} {W : World} {r : Nat} {A B : Option Addr} {n c m d : Nat} (hf : fn.results = #[ResultVar.cell 2 25])
    (h2 : a.tmps.getD 2 undef = .pointer (some ⟨r, 0, none⟩)) (hd : a.defers = []) (hb : Blk W r #[.slice A n c, .slice B m d] 25)
    (hR : R (.returned (.agg #[.slice A n c, .slice B m d])) W) : bodyPost Try.prog fn R .ret a W := by
  have e0 := hb.c 0
  have e1 := hb.c 1
  dsimp at e0 e1
  rw [Array.getD_eq_getD_getElem?] at h2
  refine bodyPost_ret ?_ hd hR
  simp only [results, hf]
  simp [go_sem, h2, e0, e1]

/-- What the reference's Take leaves. -/
def Take2Post (g : Nat) (s : ByteArray) (w : World) (e : Ending) (w' : World) : Prop :=
  ∃ (A B : Option Addr) (c d : Nat), e = .returned (.agg #[.slice A (stR s).seen.length c, .slice B (stR s).sibs.length d]) ∧
    Own w' (fun k => w.heap.size ≤ k) 50 2 (.slice A (stR s).seen.length c) (stR s).seen.length (((stR s).seen.map dotV).flatten) ∧
    Own w' (fun k => w.heap.size ≤ k) 145 4 (.slice B (stR s).sibs.length d) (stR s).sibs.length (((stR s).sibs.map sibV).flatten) ∧
    RKp 157 g s w (stX s).2.1 (stX s).2.2 w'
theorem stR_wf (s : ByteArray) : (∀ d ∈ (stR s).seen, dotWf d) ∧ (∀ x ∈ (stR s).sibs, sibWf x) ∧ (stR s).seen.length ≤ 64 ∧ (stR s).sibs.length ≤ 64 := by
  refine ⟨vecR_wf s 0 0, ?_, vecR_len s 0 0, ?_⟩
  · intro x hx
    obtain ⟨z, hz, rfl⟩ := List.mem_map.1 hx
    exact sibIter_wf s ([], (stN s).2) (by simp) (stN s).1 z hz
  · have h := sibIter_len s ([], (stN s).2) (stN s).1
    have h2 : ((stN s).1 : Int) ≤ 64 := rdU_le (by decide)
    show ((sibIter s ([], (stN s).2) (stN s).1).1.map Prod.fst).length ≤ 64
    rw [List.length_map, h]; simp only [List.length_nil]; omega

set_option maxRecDepth 100000 in
set_option maxHeartbeats 2000000 in
theorem refTake2 (g : Nat) (s : ByteArray) (w : World) (h : IsR 157 w g s 0 0) :
    Calls Try.prog 105 #[.pointer (some ⟨g, 0, none⟩)] w (Take2Post g s w) := by
  have hgl : g < w.heap.size := lt_of_heap h.1
  have hB0 := Below.refl w.heap.size w
  have T1 := fun W h => refTake g s 0 0 W h
  have U1 := fun W h => refReadUint g s (vecR s 0 0).2.1 (vecR s 0 0).2.2 64 W h
  have hn64 : ((stN s).1 : Int) ≤ 64 := rdU_le (by decide)
  have hX : stX s = sibIter s ([], (stN s).2) (stN s).1 := rfl
  have hvlen := vecR_len s 0 0
  have hR : stR s = ⟨(vecR s 0 0).1, (stX s).1.map Prod.fst⟩ := rfl
  unfold TakePost at T1
  rw [show rdU s (vecR s 0 0).2.1 (vecR s 0 0).2.2 64 = stN s from rfl] at U1
  generalize stN s = nn at *
  generalize vecR s 0 0 = vv at *
  obtain ⟨vs, vp, ve⟩ := vv
  obtain ⟨n, y⟩ := nn
  dsimp only at T1 U1 hX hn64 hR hvlen
  have HT := Lib.hid T1
  have HU := Lib.hid U1
  have HX := Lib.hid hX
  have HR := Lib.hid hR
  clear T1 U1 hX hR
  obtain ⟨i0, hi, hz0, hz1, hz2⟩ := info_parts infoSib
  have h0 := h.alloc (.cells #[.slice none 0 0, .slice none 0 0] 25)
  go_enter Try.func105, Try.ntmps105
  go_wp2_with (first
    | (go_at_call 194; (with_reducible refine (HT.out _ h0).mono ?_); rintro e w3 ⟨A, c, rfl, ow3, I3, K3⟩; have I3' := I3.alloc (.cells #[.slice A vs.length c, .slice none 0 0] 25))
    | (go_at_call 195; (with_reducible refine (HU.out _ I3').mono ?_); rintro e w4 ⟨rfl, I4, K4⟩))
  have hs3 : w.heap.size + 1 ≤ w3.heap.size := by have := K3.size; simpa using this
  have r4 : Blk w4 w.heap.size #[.slice none 0 0, .slice none 0 0] 25 := (((Blk.new w _ _).kp K3 (by omega)).alloc _).kp K4 (by omega)
  have q4 : Blk w4 w3.heap.size #[.slice A vs.length c, .slice none 0 0] 25 := (Blk.new w3 _ _).kp K4 (by omega)
  have hK4 : Kp (fun k => k = g) w w4 := ((((Kp.refl _ w).alloc _).trans K3 (fun _ _ h => h)).alloc _).trans K4 (fun _ _ h => h)
  have ow4 : Own w4 (fun k => w.heap.size < k ∧ k < w3.heap.size) 50 2 (.slice A vs.length c) vs.length ((vs.map dotV).flatten) :=
    ((ow3.mono (fun k h1 h2 => ⟨by rw [World.size_alloc] at h2; omega, h1⟩)).alloc _).kp K4 (by intros; omega)
  generalize w3.heap.size = q at *
  clear ow3 I3 I3' K3 K4 h0
  go_loopw [5] (fun i W => ∃ (k : Nat) (B : Option Addr) (d : Nat), i = .int .u64 k ∧ k ≤ n ∧ IsR 157 W g s (sibIter s ([], y) k).2.1 (sibIter s ([], y) k).2.2 ∧ Blk W w.heap.size #[.slice none 0 0, .slice none 0 0] 25 ∧
    Blk W q #[.slice A vs.length c, .slice B k d] 25 ∧ Own W (fun k => q < k) 145 4 (.slice B k d) k (((sibIter s ([], y) k).1.map (fun z => sibV z.1)).flatten) ∧
    Own W (fun k => w.heap.size < k ∧ k < q) 50 2 (.slice A vs.length c) vs.length ((vs.map dotV).flatten) ∧ Kp (fun k => k = g) w W) (fun i _ => n - (intOf i).toNat)
  case atStart => exact ⟨0, none, 0, rfl, Nat.zero_le _, I4, r4, q4, Own.nil _ _ _ _, ow4, hK4⟩
  case round =>
    clear r4 q4 hK4 ow4 I4
    obtain ⟨k, B, d, rfl, hk, I, rB, qB, oB, oA, hK⟩ := hrel
    have hS := hK.size
    have hql := qB.lt
    by_cases hkn : k < n
    · have hstep : sibIter s ([], y) (k + 1) = sibStep s (sibIter s ([], y) k) := rfl
      have hlen := sibIter_len s ([], y) k
      generalize hx : sibIter s ([], y) k = x at *
      obtain ⟨xs, p, er⟩ := x
      dsimp only at I oB hlen
      have U1 := fun W h => refReadUint g s p er 4294967295 W h
      have b1 := rdU_le (s := s) (at_ := p) (err := er) (most := 4294967295) (by decide)
      generalize h1 : rdU s p er 4294967295 = aa at *
      obtain ⟨av, ap, ae⟩ := aa
      have U2 := fun W h => refReadUint g s ap ae 1099511627776 W h
      generalize h2 : rdU s ap ae 1099511627776 = cc at *
      obtain ⟨cv, cp, ce⟩ := cc
      have U3 := fun W h => refByte g s cp ce W h
      generalize h3 : rdB s cp ce = bb at *
      obtain ⟨bv, bp, be⟩ := bb
      have U4 := fun W h => refRText g s bp be 40 W h (by decide) (by decide)
      generalize h4 : rdT s bp be 40 = tt at *
      obtain ⟨tv, tp, te⟩ := tt
      rw [sibStep_eq (x := (xs, p, er)) h1 h2 h3 h4] at hstep
      clear h1 h2 h3 h4 hx
      have V1 := Lib.hid U1
      have V2 := Lib.hid U2
      have V3 := Lib.hid U3
      have V4 := Lib.hid U4
      have HS := Lib.hid hstep
      clear hstep U1 U2 U3 U4
      dsimp only at V1 V2 V3 V4 HS b1
      have hlen' : xs.length = k := by simpa using hlen
      clear hlen
      go_wp2_with (first
        | (go_at_call 195; (with_reducible refine (V1.out _ I).mono ?_); rintro e w5 ⟨rfl, I5, K5⟩)
        | (go_at_call 195; (with_reducible refine (V2.out _ I5).mono ?_); rintro e w6 ⟨rfl, I6, K6⟩)
        | (go_at_call 196; (with_reducible refine (V3.out _ I6).mono ?_); rintro e w7 ⟨rfl, I7, K7⟩)
        | (go_at_call 197; (with_reducible refine (V4.out _ I7).mono ?_); rintro e w8 ⟨rfl, I8, K8⟩; have K58 := ((K5.trans K6 (fun _ _ h => h)).trans K7 (fun _ _ h => h)).trans K8 (fun _ _ h => h); have R8 := rB.kp K58 (by omega); have Q8 := qB.kp K58 (by omega); have oB8 := oB.kp K58 (by intros; omega); have oA8 := oA.kp K58 (by intros; omega); have q80 := Q8.c 0; have q81 := Q8.c 1; have p81 := Q8.f 1; dsimp at q80; dsimp at q81; have hS8 := K58.size)
        | (at_builtin; (refine wpList_append_lies _ rfl (.tmp 29) (.tmp 38) 23 rfl 0 145 i0 (.agg #[.int .u32 0, .int .u64 0, .bool false, .string ⟨#[]⟩]) 4 40 Try.underlying23 hi hz0 hz1 hz2 rfl (by decide) _ _ _ rfl ((oB8.alloc _).1) ⟨w8.heap.size, 0, none⟩ 1 1 [.int .u32 av, .int .u64 cv, .bool ((bv : Int) == 1), .string tv] rfl rfl (World.news_of_block (heap_alloc_new w8 _)) (by simp [Value.oneCell']) (by decide) ?c3 ?c4 (Nat.zero_le _) _ rfl ?_); (case c3 => unfold maxLen; omega); (case c4 => omega); intro g1 cap w9 hown hgrow hat hlt; have hw9 : Kp (fun i => q < i) w8 w9 := ((Kp.refl _ _).alloc _).grown hgrow (fun i hi => .inl (oB8.2 i hi)); have Q9 := Q8.kp hw9 (by omega); have q91 := Q9.c 1; have p91 := Q9.f 1; dsimp at q91))
      go_roundw
      case rel =>
        refine ⟨k + 1, some ⟨g1, 0, none⟩, cap, by go_num, by omega, ?_, ?_, Q9.set 1 _, ?_, ?_, ?_⟩
        · rw [HS.out]; exact (I8.kp hw9 (by omega)).setO _ _ (by simp only; omega)
        · exact (R8.kp hw9 (by omega)).setO _ _ (by simp only; omega)
        · rw [HS.out]
          refine Own.set (P := fun i => q < i) ⟨by simpa [sibV, sibOf] using hown, fun i hi => ?_⟩ (by simp) _
          have : g1 = i := by simpa [Value.ownBlock] using hi
          subst this
          rcases hat with e | e
          · exact oB8.2 _ e
          · simp at e; omega
        · exact (oA8.kp hw9 (by intro i hi h; omega)).set (by simp) _
        · exact Kp.set ((hK.trans K58 (fun _ _ h => h)).trans hw9 (fun i h1 h2 => by omega)) (.inr (by simp only; omega)) _
      case measure => simp [intOf]; omega
    · obtain rfl : k = n := by omega
      have hlen := sibIter_len s ([], y) k
      generalize sibIter s ([], y) k = x at *
      obtain ⟨xs, p, er⟩ := x
      dsimp only at I oB hlen HX HR
      have hlen' : xs.length = k := by simpa using hlen
      clear hlen
      have hm : (xs.map (fun z => sibV z.1)).flatten = ((xs.map Prod.fst).map sibV).flatten := by rw [List.map_map]; rfl
      rw [hm] at oB
      have hR2 : Hid (stR s = ⟨vs, xs.map Prod.fst⟩) := by unfold Hid; rw [HR.out, HX.out]
      have hleny : (xs.map Prod.fst).length = k := by simpa using hlen'
      have hpe : Hid ((stX s).2 = (p, er)) := by unfold Hid; rw [HX.out]
      clear HX HR hm hlen'
      generalize xs.map Prod.fst = ys at *
      subst hleny
      have q60 := qB.c 0
      have q61 := qB.c 1
      have r60 := rB.c 0
      have r61 := rB.c 1
      have s60 := rB.f 0
      have s61 := rB.f 1
      dsimp at q60 q61 r60 r61
      go_wp2
      refine retSt1 (r := w.heap.size) Try.results105 rfl rfl ((rB.set 0 _).set 1 _) ?_
      unfold Take2Post
      rw [hR2.out, hpe.out]
      refine ⟨A, B, c, d, rfl, ?_, ?_, ?_, ?_⟩
      · exact ((oA.set (by simp only; omega) _).set (by simp only; omega) _).mono (fun k _ h => by omega)
      · exact ((oB.set (by simp only; omega) _).set (by simp only; omega) _).mono (fun k _ h => by omega)
      · exact (I.setO _ _ (by simp only; omega)).setO _ _ (by simp only; omega)
      · exact Kp.set (Kp.set hK (.inr (by simp)) _) (.inr (by simp)) _

theorem str_ne {a b : ByteArray} (h : a ≠ b) : (a.toList == b.toList) = false := by
  rw [beq_eq_false_iff_ne]
  intro e
  rw [ByteArray.toList_eq, ByteArray.toList_eq] at e
  exact h (ByteArray.ext (Array.toList_inj.1 e))
/-- The reference's answer. -/
def decOk2 (s : ByteArray) : Bool := decide (rdEnd s (stX s).2.1 (stX s).2.2 = 0 ∧ svalid (stR s) = true ∧ strB (encSt (stR s)) = s)

set_option maxRecDepth 100000 in
set_option maxHeartbeats 2000000 in
theorem refDecode (s : ByteArray) (w : World) (hs : s.size ≤ 140737488351232) :
    Calls Try.prog 23 #[.string s] w (DecPost (decOk2 s) s w) := by
  have hB0 := Below.refl w.heap.size w
  obtain ⟨hw1, hw2, hl1, hl2⟩ := stR_wf s
  have hI : IsR 157 ((w.alloc (.cells #[.slice none 0 0, .slice none 0 0] 25)).alloc (.cells #[.string s, .int .i64 0, .int .i64 0] 157)) (w.heap.size + 1) s 0 0 :=
    ⟨by have := heap_alloc_new (w.alloc (.cells #[.slice none 0 0, .slice none 0 0] 25)) (.cells #[.string s, .int .i64 0, .int .i64 0] 157); simpa using this, Nat.zero_le _, hs⟩
  have hT := fun W h => refTake2 (w.heap.size + 1) s W h
  unfold Take2Post at hT
  generalize hst : stR s = st at *
  generalize hxx : (stX s).2 = px at *
  obtain ⟨p, er⟩ := px
  dsimp only at hT
  have HT := Lib.hid hT
  clear hT
  have HST := Lib.hid hst
  have HXX := Lib.hid hxx
  clear hst hxx
  have hE := fun W h => refEnd (w.heap.size + 1) s p er W h
  by_cases hv : svalid st = true
  · have HVV : Hid ((if svalid st = true then Value.tuple #[.string (strB (encSt st)), .int .i64 0] else .tuple #[.string ⟨#[]⟩, .int .i64 110]) = .tuple #[.string (strB (encSt st)), .int .i64 0]) := if_pos hv
    by_cases he : rdEnd s p er = 0
    · rw [he] at hE
      by_cases ht : strB (encSt st) = s
      · have hok : Hid (decOk2 s = true) := decide_eq_true (by rw [HXX.out, HST.out]; exact ⟨he, hv, ht⟩)
        have HE := Lib.hid hE
        have hbb : ((strB (encSt st)).toList == s.toList) = true := by rw [ht]; simp
        have HTT := Lib.hid ht
        clear ht
        clear hE he hv
        go_enter Try.func23, Try.ntmps23
        go_wp2_with (first
          | (go_at_call 105; (with_reducible refine (HT.out _ hI).mono ?_); rintro e w3 ⟨A, B, c, d, rfl, oA, oB, I3, K3⟩; have hs3 := K3.size; simp only [World.size_alloc] at hs3 oA oB; have oA' := oA.alloc (.cells #[.slice A st.seen.length c, .slice B st.sibs.length d] 25); have oB' := oB.alloc (.cells #[.slice A st.seen.length c, .slice B st.sibs.length d] 25); have R3 : Blk w3 w.heap.size #[.slice none 0 0, .slice none 0 0] 25 := ((Blk.new w _ _).alloc _).kp K3 (by omega); have R3' := R3.alloc (.cells #[.slice A st.seen.length c, .slice B st.sibs.length d] 25); have Q3 := Blk.new w3 #[.slice A st.seen.length c, .slice B st.sibs.length d] 25; have I3' := I3.alloc (.cells #[.slice A st.seen.length c, .slice B st.sibs.length d] 25); have B3 : Below w.heap.size w (w3.alloc (.cells #[.slice A st.seen.length c, .slice B st.sibs.length d] 25)) := (((hB0.alloc (Nat.le_refl _) _).alloc (by simp) _).trans (K3.below (by simp; omega) (by intros; omega))).alloc (by omega) _)
          | (go_at_call 18; (refine (refEncode A B c d st _ (own_rdD oA' hw1) (own_rdS oB' hw2) (by omega)).mono ?_); rintro e w4 ⟨rfl, hb4⟩; rw [HVV.out]; have K4 := Kp.of_below (P := fun _ => False) hb4; have I4 := I3'.kp K4 id; have R4 := R3'.kp K4 id; have Q4 := Q3.kp K4 id; have oA4 := oA'.kp K4 (fun _ _ => id); have oB4 := oB'.kp K4 (fun _ _ => id); have B4 := B3.trans (hb4.mono B3.size))
          | (go_at_call 106; (refine (HE.out _ I4).mono ?_); rintro e w5 ⟨rfl, hb5⟩; have K5 := Kp.of_below (P := fun _ => False) hb5; have R5 := R4.kp K5 id; have Q5 := Q4.kp K5 id; have oA5 := oA4.kp K5 (fun _ _ => id); have oB5 := oB4.kp K5 (fun _ _ => id); have B5 := B4.trans (hb5.mono B4.size); have q50 := Q5.c 0; have q51 := Q5.c 1; have r50 := R5.c 0; have r51 := R5.c 1; have s50 := R5.f 0; have s51 := R5.f 1; dsimp at q50; dsimp at q51; dsimp at r50; dsimp at r51))
        refine retSt (r := w.heap.size) (E := .int .i64 0) Try.results23 rfl rfl rfl ((R5.set 0 _).set 1 _) ?_
        refine ⟨st, 0, A, B, c, d, by rw [if_pos hok.out]; exact ⟨HST.out.symm, rfl⟩, rfl, ?_, ?_, hw1, hw2, bl_set (bl_set B5 (by simp) _) (by simp) _⟩
        · exact ((oA5.set (by simp only; omega) _).set (by simp only; omega) _).mono (fun k _ h => by omega)
        · exact ((oB5.set (by simp only; omega) _).set (by simp only; omega) _).mono (fun k _ h => by omega)
      · have hok : Hid (decOk2 s = false) := decide_eq_false (by rw [HXX.out, HST.out]; exact fun h => ht h.2.2)
        have hbb : ((strB (encSt st)).toList == s.toList) = false := str_ne ht
        have HE := Lib.hid hE
        clear hE he hv
        go_enter Try.func23, Try.ntmps23
        go_wp2_with (first
          | (go_at_call 105; (with_reducible refine (HT.out _ hI).mono ?_); rintro e w3 ⟨A, B, c, d, rfl, oA, oB, I3, K3⟩; have hs3 := K3.size; simp only [World.size_alloc] at hs3 oA oB; have oA' := oA.alloc (.cells #[.slice A st.seen.length c, .slice B st.sibs.length d] 25); have oB' := oB.alloc (.cells #[.slice A st.seen.length c, .slice B st.sibs.length d] 25); have R3 : Blk w3 w.heap.size #[.slice none 0 0, .slice none 0 0] 25 := ((Blk.new w _ _).alloc _).kp K3 (by omega); have R3' := R3.alloc (.cells #[.slice A st.seen.length c, .slice B st.sibs.length d] 25); have Q3 := Blk.new w3 #[.slice A st.seen.length c, .slice B st.sibs.length d] 25; have I3' := I3.alloc (.cells #[.slice A st.seen.length c, .slice B st.sibs.length d] 25); have B3 : Below w.heap.size w (w3.alloc (.cells #[.slice A st.seen.length c, .slice B st.sibs.length d] 25)) := (((hB0.alloc (Nat.le_refl _) _).alloc (by simp) _).trans (K3.below (by simp; omega) (by intros; omega))).alloc (by omega) _)
          | (go_at_call 18; (refine (refEncode A B c d st _ (own_rdD oA' hw1) (own_rdS oB' hw2) (by omega)).mono ?_); rintro e w4 ⟨rfl, hb4⟩; rw [HVV.out]; have K4 := Kp.of_below (P := fun _ => False) hb4; have I4 := I3'.kp K4 id; have R4 := R3'.kp K4 id; have Q4 := Q3.kp K4 id; have oA4 := oA'.kp K4 (fun _ _ => id); have oB4 := oB'.kp K4 (fun _ _ => id); have B4 := B3.trans (hb4.mono B3.size))
          | (go_at_call 106; (refine (HE.out _ I4).mono ?_); rintro e w5 ⟨rfl, hb5⟩; have K5 := Kp.of_below (P := fun _ => False) hb5; have R5 := R4.kp K5 id; have Q5 := Q4.kp K5 id; have oA5 := oA4.kp K5 (fun _ _ => id); have oB5 := oB4.kp K5 (fun _ _ => id); have B5 := B4.trans (hb5.mono B4.size); have q50 := Q5.c 0; have q51 := Q5.c 1; have r50 := R5.c 0; have r51 := R5.c 1; have s50 := R5.f 0; have s51 := R5.f 1; dsimp at q50; dsimp at q51; dsimp at r50; dsimp at r51))
        refine retSt (r := w.heap.size) (E := .int .i64 110) Try.results23 rfl rfl rfl ((R5.set 0 _).set 1 _) ?_
        exact dec_no hok.out (bl_set (bl_set B5 (by simp) _) (by simp) _)
    · have hne : (rdEnd s p er != 0) = true := by simpa using he
      have hok : Hid (decOk2 s = false) := decide_eq_false (by rw [HXX.out, HST.out]; exact fun h => he h.1)
      have HE := Lib.hid hE
      clear hE he hv
      go_enter Try.func23, Try.ntmps23
      go_wp2_with (first
        | (go_at_call 105; (with_reducible refine (HT.out _ hI).mono ?_); rintro e w3 ⟨A, B, c, d, rfl, oA, oB, I3, K3⟩; have hs3 := K3.size; simp only [World.size_alloc] at hs3 oA oB; have oA' := oA.alloc (.cells #[.slice A st.seen.length c, .slice B st.sibs.length d] 25); have oB' := oB.alloc (.cells #[.slice A st.seen.length c, .slice B st.sibs.length d] 25); have R3 : Blk w3 w.heap.size #[.slice none 0 0, .slice none 0 0] 25 := ((Blk.new w _ _).alloc _).kp K3 (by omega); have R3' := R3.alloc (.cells #[.slice A st.seen.length c, .slice B st.sibs.length d] 25); have Q3 := Blk.new w3 #[.slice A st.seen.length c, .slice B st.sibs.length d] 25; have I3' := I3.alloc (.cells #[.slice A st.seen.length c, .slice B st.sibs.length d] 25); have B3 : Below w.heap.size w (w3.alloc (.cells #[.slice A st.seen.length c, .slice B st.sibs.length d] 25)) := (((hB0.alloc (Nat.le_refl _) _).alloc (by simp) _).trans (K3.below (by simp; omega) (by intros; omega))).alloc (by omega) _)
        | (go_at_call 18; (refine (refEncode A B c d st _ (own_rdD oA' hw1) (own_rdS oB' hw2) (by omega)).mono ?_); rintro e w4 ⟨rfl, hb4⟩; rw [HVV.out]; have K4 := Kp.of_below (P := fun _ => False) hb4; have I4 := I3'.kp K4 id; have R4 := R3'.kp K4 id; have Q4 := Q3.kp K4 id; have oA4 := oA'.kp K4 (fun _ _ => id); have oB4 := oB'.kp K4 (fun _ _ => id); have B4 := B3.trans (hb4.mono B3.size))
        | (go_at_call 106; (refine (HE.out _ I4).mono ?_); rintro e w5 ⟨rfl, hb5⟩; have K5 := Kp.of_below (P := fun _ => False) hb5; have R5 := R4.kp K5 id; have Q5 := Q4.kp K5 id; have oA5 := oA4.kp K5 (fun _ _ => id); have oB5 := oB4.kp K5 (fun _ _ => id); have B5 := B4.trans (hb5.mono B4.size); have q50 := Q5.c 0; have q51 := Q5.c 1; have r50 := R5.c 0; have r51 := R5.c 1; have s50 := R5.f 0; have s51 := R5.f 1; dsimp at q50; dsimp at q51; dsimp at r50; dsimp at r51))
      refine retSt (r := w.heap.size) (E := .int .i64 110) Try.results23 rfl rfl rfl ((R5.set 0 _).set 1 _) ?_
      exact dec_no hok.out (bl_set (bl_set B5 (by simp) _) (by simp) _)
  · have HVV : Hid ((if svalid st = true then Value.tuple #[.string (strB (encSt st)), .int .i64 0] else .tuple #[.string ⟨#[]⟩, .int .i64 110]) = .tuple #[.string ⟨#[]⟩, .int .i64 110]) := if_neg hv
    have hok : Hid (decOk2 s = false) := decide_eq_false (by rw [HXX.out, HST.out]; exact fun h => hv h.2.1)
    by_cases he : rdEnd s p er = 0
    · rw [he] at hE
      have HE := Lib.hid hE
      clear hE he hv
      go_enter Try.func23, Try.ntmps23
      go_wp2_with (first
        | (go_at_call 105; (with_reducible refine (HT.out _ hI).mono ?_); rintro e w3 ⟨A, B, c, d, rfl, oA, oB, I3, K3⟩; have hs3 := K3.size; simp only [World.size_alloc] at hs3 oA oB; have oA' := oA.alloc (.cells #[.slice A st.seen.length c, .slice B st.sibs.length d] 25); have oB' := oB.alloc (.cells #[.slice A st.seen.length c, .slice B st.sibs.length d] 25); have R3 : Blk w3 w.heap.size #[.slice none 0 0, .slice none 0 0] 25 := ((Blk.new w _ _).alloc _).kp K3 (by omega); have R3' := R3.alloc (.cells #[.slice A st.seen.length c, .slice B st.sibs.length d] 25); have Q3 := Blk.new w3 #[.slice A st.seen.length c, .slice B st.sibs.length d] 25; have I3' := I3.alloc (.cells #[.slice A st.seen.length c, .slice B st.sibs.length d] 25); have B3 : Below w.heap.size w (w3.alloc (.cells #[.slice A st.seen.length c, .slice B st.sibs.length d] 25)) := (((hB0.alloc (Nat.le_refl _) _).alloc (by simp) _).trans (K3.below (by simp; omega) (by intros; omega))).alloc (by omega) _)
        | (go_at_call 18; (refine (refEncode A B c d st _ (own_rdD oA' hw1) (own_rdS oB' hw2) (by omega)).mono ?_); rintro e w4 ⟨rfl, hb4⟩; rw [HVV.out]; have K4 := Kp.of_below (P := fun _ => False) hb4; have I4 := I3'.kp K4 id; have R4 := R3'.kp K4 id; have Q4 := Q3.kp K4 id; have oA4 := oA'.kp K4 (fun _ _ => id); have oB4 := oB'.kp K4 (fun _ _ => id); have B4 := B3.trans (hb4.mono B3.size))
        | (go_at_call 106; (refine (HE.out _ I4).mono ?_); rintro e w5 ⟨rfl, hb5⟩; have K5 := Kp.of_below (P := fun _ => False) hb5; have R5 := R4.kp K5 id; have Q5 := Q4.kp K5 id; have oA5 := oA4.kp K5 (fun _ _ => id); have oB5 := oB4.kp K5 (fun _ _ => id); have B5 := B4.trans (hb5.mono B4.size); have q50 := Q5.c 0; have q51 := Q5.c 1; have r50 := R5.c 0; have r51 := R5.c 1; have s50 := R5.f 0; have s51 := R5.f 1; dsimp at q50; dsimp at q51; dsimp at r50; dsimp at r51))
      refine retSt (r := w.heap.size) (E := .int .i64 110) Try.results23 rfl rfl rfl ((R5.set 0 _).set 1 _) ?_
      exact dec_no hok.out (bl_set (bl_set B5 (by simp) _) (by simp) _)
    · have hne : (rdEnd s p er != 0) = true := by simpa using he
      have HE := Lib.hid hE
      clear hE he hv
      go_enter Try.func23, Try.ntmps23
      go_wp2_with (first
        | (go_at_call 105; (with_reducible refine (HT.out _ hI).mono ?_); rintro e w3 ⟨A, B, c, d, rfl, oA, oB, I3, K3⟩; have hs3 := K3.size; simp only [World.size_alloc] at hs3 oA oB; have oA' := oA.alloc (.cells #[.slice A st.seen.length c, .slice B st.sibs.length d] 25); have oB' := oB.alloc (.cells #[.slice A st.seen.length c, .slice B st.sibs.length d] 25); have R3 : Blk w3 w.heap.size #[.slice none 0 0, .slice none 0 0] 25 := ((Blk.new w _ _).alloc _).kp K3 (by omega); have R3' := R3.alloc (.cells #[.slice A st.seen.length c, .slice B st.sibs.length d] 25); have Q3 := Blk.new w3 #[.slice A st.seen.length c, .slice B st.sibs.length d] 25; have I3' := I3.alloc (.cells #[.slice A st.seen.length c, .slice B st.sibs.length d] 25); have B3 : Below w.heap.size w (w3.alloc (.cells #[.slice A st.seen.length c, .slice B st.sibs.length d] 25)) := (((hB0.alloc (Nat.le_refl _) _).alloc (by simp) _).trans (K3.below (by simp; omega) (by intros; omega))).alloc (by omega) _)
        | (go_at_call 18; (refine (refEncode A B c d st _ (own_rdD oA' hw1) (own_rdS oB' hw2) (by omega)).mono ?_); rintro e w4 ⟨rfl, hb4⟩; rw [HVV.out]; have K4 := Kp.of_below (P := fun _ => False) hb4; have I4 := I3'.kp K4 id; have R4 := R3'.kp K4 id; have Q4 := Q3.kp K4 id; have oA4 := oA'.kp K4 (fun _ _ => id); have oB4 := oB'.kp K4 (fun _ _ => id); have B4 := B3.trans (hb4.mono B3.size))
        | (go_at_call 106; (refine (HE.out _ I4).mono ?_); rintro e w5 ⟨rfl, hb5⟩; have K5 := Kp.of_below (P := fun _ => False) hb5; have R5 := R4.kp K5 id; have Q5 := Q4.kp K5 id; have oA5 := oA4.kp K5 (fun _ _ => id); have oB5 := oB4.kp K5 (fun _ _ => id); have B5 := B4.trans (hb5.mono B4.size); have q50 := Q5.c 0; have q51 := Q5.c 1; have r50 := R5.c 0; have r51 := R5.c 1; have s50 := R5.f 0; have s51 := R5.f 1; dsimp at q50; dsimp at q51; dsimp at r50; dsimp at r51))
      refine retSt (r := w.heap.size) (E := .int .i64 110) Try.results23 rfl rfl rfl ((R5.set 0 _).set 1 _) ?_
      exact dec_no hok.out (bl_set (bl_set B5 (by simp) _) (by simp) _)
end Go.Proofs.Ytfdiedcleggfnaa
