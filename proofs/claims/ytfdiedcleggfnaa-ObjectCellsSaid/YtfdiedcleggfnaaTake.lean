/- What is read as a vector: the program's Take and the reference's. -/
import Derived.Test.YtfdiedcleggfnaaRefRead2
namespace Go.Proofs.Ytfdiedcleggfnaa
open Go.RowKit Go.Sort
attribute [local go_sem] grow_cell

theorem infoDot : (Try.prog.info? 50).map (fun i => (i.zero, i.size, i.bytes)) = some (some (.agg #[.int .u32 0, .int .u64 0]), 2, 16) := by kernel_rfl

/-- One dot read. -/
def dotStep (s : ByteArray) (x : List Dot × Nat × Int) : List Dot × Nat × Int :=
  (x.1 ++ [⟨(rdU s x.2.1 x.2.2 4294967295).1, (rdU s (rdU s x.2.1 x.2.2 4294967295).2.1 (rdU s x.2.1 x.2.2 4294967295).2.2 1099511627776).1⟩],
   (rdU s (rdU s x.2.1 x.2.2 4294967295).2.1 (rdU s x.2.1 x.2.2 4294967295).2.2 1099511627776).2)
def dotIter (s : ByteArray) (x : List Dot × Nat × Int) : Nat → List Dot × Nat × Int
  | 0 => x
  | k + 1 => dotStep s (dotIter s x k)
/-- What is read as a vector: its dots, where the reader stands, its error. -/
def vecR (s : ByteArray) (at_ : Nat) (err : Int) : List Dot × Nat × Int :=
  if (dotIter s ([], (rdU s at_ err 64).2) (rdU s at_ err 64).1).2.2 = 0 then
    (if vvalid (dotIter s ([], (rdU s at_ err 64).2) (rdU s at_ err 64).1).1 = true then dotIter s ([], (rdU s at_ err 64).2) (rdU s at_ err 64).1
     else ([], (dotIter s ([], (rdU s at_ err 64).2) (rdU s at_ err 64).1).2.1, 100))
  else ([], (dotIter s ([], (rdU s at_ err 64).2) (rdU s at_ err 64).1).2)

theorem rdU_le {s : ByteArray} {at_ : Nat} {err most : Int} (h0 : 0 ≤ most) : ((rdU s at_ err most).1 : Int) ≤ most := by
  unfold rdU
  split
  · by_cases h : (uvar s at_ most).1 = 0
    · exact (uvar_ok h).1
    · rw [uvar_no h]; simpa using h0
  · simpa using h0
theorem rdU_at {s : ByteArray} {at_ : Nat} {err most : Int} (h0 : at_ ≤ s.size) : (rdU s at_ err most).2.1 ≤ s.size := by
  unfold rdU
  split
  · by_cases h : (uvar s at_ most).1 = 0
    · exact (uvar_ok h).2
    · rw [uvar_no h]; simpa using h0
  · simpa using h0
theorem rdU_err {s : ByteArray} {at_ : Nat} {err most : Int} (h : err ≠ 0) : rdU s at_ err most = (0, at_, err) := if_neg h
theorem dotStep_err {s : ByteArray} {x : List Dot × Nat × Int} (h : x.2.2 ≠ 0) : (dotStep s x).2 = x.2 := by
  unfold dotStep; rw [rdU_err h, rdU_err h]
theorem dotIter_err {s : ByteArray} {x : List Dot × Nat × Int} {k n : Nat} (hk : k ≤ n) (h : (dotIter s x k).2.2 ≠ 0) : (dotIter s x n).2 = (dotIter s x k).2 := by
  induction n with
  | zero => have : k = 0 := by omega
            rw [this]
  | succ n ih =>
    by_cases e : k = n + 1
    · rw [e]
    · have := ih (by omega)
      rw [dotIter, dotStep_err (by rw [this]; exact h), this]
theorem dotIter_len (s : ByteArray) (x : List Dot × Nat × Int) (k : Nat) : (dotIter s x k).1.length = x.1.length + k := by
  induction k with
  | zero => rfl
  | succ k ih => rw [dotIter, dotStep]; simp [ih]; omega
theorem dotIter_wf (s : ByteArray) (x : List Dot × Nat × Int) (hx : ∀ d ∈ x.1, dotWf d) (k : Nat) : ∀ d ∈ (dotIter s x k).1, dotWf d := by
  induction k with
  | zero => exact hx
  | succ k ih =>
    intro d hd
    rw [dotIter, dotStep] at hd
    rcases List.mem_append.1 hd with hd | hd
    · exact ih d hd
    · rw [List.mem_singleton] at hd
      subst hd
      have h1 := rdU_le (s := s) (at_ := (dotIter s x k).2.1) (err := (dotIter s x k).2.2) (most := 4294967295) (by decide)
      have h2 := rdU_le (s := s) (at_ := (rdU s (dotIter s x k).2.1 (dotIter s x k).2.2 4294967295).2.1) (err := (rdU s (dotIter s x k).2.1 (dotIter s x k).2.2 4294967295).2.2) (most := 1099511627776) (by decide)
      exact ⟨by simp, by simpa using h1, by simp, by simp only; omega⟩
theorem vecR_wf (s : ByteArray) (at_ : Nat) (err : Int) : ∀ d ∈ (vecR s at_ err).1, dotWf d := by
  have h := dotIter_wf s ([], (rdU s at_ err 64).2) (by simp) (rdU s at_ err 64).1
  unfold vecR
  split
  · split
    · exact h
    · simp
  · simp

/-- What a Take leaves. -/
def TakePost (T : TypeId) (g : Nat) (s : ByteArray) (at_ : Nat) (err : Int) (w : World) (e : Ending) (w' : World) : Prop :=
  ∃ A c, e = .returned (.slice A (vecR s at_ err).1.length c) ∧ Own w' (fun k => w.heap.size ≤ k) 50 2 (.slice A (vecR s at_ err).1.length c) (vecR s at_ err).1.length ((vecR s at_ err).1.map dotV).flatten ∧
    RKp T g s w (vecR s at_ err).2.1 (vecR s at_ err).2.2 w'


/-- A Take's answer from what its rounds have left. -/
theorem vecR_of {s : ByteArray} {at_ : Nat} {err : Int} {n : Nat} {y : Nat × Int} (hn : rdU s at_ err 64 = (n, y)) :
    vecR s at_ err = if (dotIter s ([], y) n).2.2 = 0 then (if vvalid (dotIter s ([], y) n).1 = true then dotIter s ([], y) n else ([], (dotIter s ([], y) n).2.1, 100)) else ([], (dotIter s ([], y) n).2) := by
  unfold vecR; rw [hn]
theorem take_nil {T : TypeId} {g : Nat} {s : ByteArray} {at_ : Nat} {err : Int} {w w' : World} {p : Nat} {er : Int} (h : vecR s at_ err = ([], p, er)) (hk : RKp T g s w p er w') : TakePost T g s at_ err w (.returned (.slice none 0 0)) w' := by
  unfold TakePost; rw [h]
  exact ⟨none, 0, rfl, Own.nil _ _ _ _, hk⟩
theorem take_yes {T : TypeId} {g : Nat} {s : ByteArray} {at_ : Nat} {err : Int} {w w' : World} {p c : Nat} {er : Int} {xs : List Dot} {A : Option Addr} (h : vecR s at_ err = (xs, p, er)) (ho : Own w' (fun k => w.heap.size ≤ k) 50 2 (.slice A xs.length c) xs.length ((xs.map dotV).flatten)) (hk : RKp T g s w p er w') : TakePost T g s at_ err w (.returned (.slice A xs.length c)) w' := by
  unfold TakePost; rw [h]
  exact ⟨A, c, rfl, ho, hk⟩
theorem own_rdD {w : World} {P : Nat → Prop} {A : Option Addr} {c : Nat} {xs : List Dot} (h : Own w P 50 2 (.slice A xs.length c) xs.length ((xs.map dotV).flatten)) (hw : ∀ d ∈ xs, dotWf d) : RdD w A xs :=
  ⟨h.rd (by intro x hx; obtain ⟨d, _, rfl⟩ := List.mem_map.1 hx; rfl) (by simp), hw⟩

theorem IsR.grown {T : TypeId} {w0 W w1 : World} {o : Obj} {g : Nat} {s : ByteArray} {at_ : Nat} {err : Int} {e : TypeId} {sz n : Nat} {v : Value} {cs : List Value} (h : IsR T W g s at_ err) (hg : g < w0.heap.size)
    (hv : Own W (fun k => w0.heap.size ≤ k) e sz v n cs) (hgrow : (W.alloc o).grownBy w1 v.ownBlock) : IsR T w1 g s at_ err :=
  h.kp (P := fun k => w0.heap.size ≤ k) (((Kp.refl _ W).alloc o).grown hgrow (fun k hk => .inl (hv.2 k hk))) (by omega)
theorem kp_grown {P : Nat → Prop} {w0 W w1 : World} {o : Obj} {e : TypeId} {sz n : Nat} {v : Value} {cs : List Value} (hK : Kp P w0 W)
    (hv : Own W (fun k => w0.heap.size ≤ k) e sz v n cs) (hgrow : (W.alloc o).grownBy w1 v.ownBlock) : Kp P w0 w1 :=
  (hK.alloc o).grown hgrow (fun k hk => .inr (hv.2 k hk))

set_option maxRecDepth 100000 in
set_option maxHeartbeats 2000000 in
theorem vectorTake (g : Nat) (s : ByteArray) (at_ : Nat) (err : Int) (w : World) (h : IsR 247 w g s at_ err) :
    Calls Try.prog 108 #[.pointer (some ⟨g, 0, none⟩)] w (TakePost 247 g s at_ err w) := by
  have hgl : g < w.heap.size := lt_of_heap h.1
  have hn64 : ((rdU s at_ err 64).1 : Int) ≤ 64 := rdU_le (by decide)
  have hU := rUint g s at_ err 64 w h
  generalize hv : rdU s at_ err 64 = n0 at *
  obtain ⟨n, y⟩ := n0
  have HV := Lib.hid (vecR_of hv)
  have HU := Lib.hid hU
  clear hv hU
  obtain ⟨i0, hi, hz0, hz1, hz2⟩ := info_parts infoDot
  go_enter Try.func108, Try.ntmps108
  go_wp2_with (go_at_call 109; refine HU.out.mono ?_; rintro e w2 ⟨rfl, hw2⟩)
  have hn : n ≤ 64 := by have : ((n : Nat) : Int) ≤ 64 := hn64; omega
  go_loopw [3, 8] (fun v i W => ∃ (k : Nat) (A : Option Addr) (c : Nat), v = .slice A k c ∧ i = .int .u64 k ∧ k ≤ n ∧ Own W (fun k => w.heap.size ≤ k) 50 2 (.slice A k c) k (((dotIter s ([], y) k).1.map dotV).flatten) ∧ RKp 247 g s w (dotIter s ([], y) k).2.1 (dotIter s ([], y) k).2.2 W) (fun _ i _ => n - (intOf i).toNat)
  case atStart => exact ⟨0, none, 0, rfl, rfl, Nat.zero_le _, Own.nil _ _ _ _, hw2⟩
  case round =>
    clear hw2
    obtain ⟨k, A, c, rfl, rfl, hk, hv, hI, hK⟩ := hrel
    by_cases hkn : k < n
    · have hstep : dotIter s ([], y) (k + 1) = dotStep s (dotIter s ([], y) k) := rfl
      unfold dotStep at hstep
      have b1 := rdU_le (s := s) (at_ := (dotIter s ([], y) k).2.1) (err := (dotIter s ([], y) k).2.2) (most := 4294967295) (by decide)
      have b2 := rdU_le (s := s) (at_ := (rdU s (dotIter s ([], y) k).2.1 (dotIter s ([], y) k).2.2 4294967295).2.1) (err := (rdU s (dotIter s ([], y) k).2.1 (dotIter s ([], y) k).2.2 4294967295).2.2) (most := 1099511627776) (by decide)
      have U1 := fun W h => rUint g s (dotIter s ([], y) k).2.1 (dotIter s ([], y) k).2.2 4294967295 W h
      have U2 := fun W h => rUint g s (rdU s (dotIter s ([], y) k).2.1 (dotIter s ([], y) k).2.2 4294967295).2.1 (rdU s (dotIter s ([], y) k).2.1 (dotIter s ([], y) k).2.2 4294967295).2.2 1099511627776 W h
      generalize (rdU s (rdU s (dotIter s ([], y) k).2.1 (dotIter s ([], y) k).2.2 4294967295).2.1 (rdU s (dotIter s ([], y) k).2.1 (dotIter s ([], y) k).2.2 4294967295).2.2 1099511627776) = cc at *
      generalize (rdU s (dotIter s ([], y) k).2.1 (dotIter s ([], y) k).2.2 4294967295) = aa at *
      have hlen := dotIter_len s ([], y) k
      obtain ⟨cv, cp, ce⟩ := cc
      obtain ⟨av, ap, ae⟩ := aa
      have V1 := Lib.hid U1
      have V2 := Lib.hid U2
      have HS := Lib.hid hstep
      clear hstep U1 U2
      have b1' : (av : Int) ≤ 4294967295 := b1
      have b2' : (cv : Int) ≤ 1099511627776 := b2
      clear b1 b2
      generalize dotIter s ([], y) k = x at *
      obtain ⟨xs, p, er⟩ := x
      dsimp only at hI V1 V2 HS hlen hv
      have hgP : ∀ k, w.heap.size ≤ k → ¬ k = g := fun k hk e => by omega
      have hlen' : xs.length = k := by simpa using hlen
      by_cases hce : ce = 0
      · have hd : (ce != 0) = false := by simpa using hce
        have HCE := Lib.hid hce
        clear hce
        go_wp2_with (first
          | (go_at_call 109; (with_reducible refine (V1.out _ hI).mono ?_); rintro e w3 ⟨rfl, I3, K3⟩)
          | (go_at_call 109; (with_reducible refine (V2.out _ I3).mono ?_); rintro e w4 ⟨rfl, I4, K4⟩; have ow4 := (hv.kp K3 hgP).kp K4 hgP)
          | (go_at_call 125; (refine (readerErr g s cp ce _ I4).mono ?_); rintro e w5 ⟨rfl, rfl⟩)
          | (at_builtin; refine wpList_append_lies _ rfl (.tmp 17) (.tmp 22) 22 rfl 0 50 i0 (.agg #[.int .u32 0, .int .u64 0]) 2 16 Try.underlying22 hi hz0 hz1 hz2 rfl (by decide) _ _ _ rfl (ow4.alloc _).1 ⟨w4.heap.size, 0, none⟩ 1 1 [.int .u32 av, .int .u64 cv] rfl rfl (World.news_of_block (heap_alloc_new w4 _)) (by simp [Value.oneCell']) (by decide) ?c3 ?c4 (Nat.zero_le _) _ rfl ?_; (case c3 => unfold maxLen; omega); (case c4 => omega); intro g1 cap w5 hown hgrow hat hlt))
        go_roundw
        case rel => exact ⟨k + 1, some ⟨g1, 0, none⟩, cap, by go_num, by go_num, by omega, by
          rw [HS.out]
          refine own_grown ow4 ((hK.trans K3 (fun _ _ h => h)).trans K4 (fun _ _ h => h)).size hgrow hat ?_
          simpa [dotV] using hown, by
          rw [HS.out]
          exact ⟨I4.grown hgl ow4 hgrow, kp_grown ((hK.trans K3 (fun _ _ h => h)).trans K4 (fun _ _ h => h)) ow4 hgrow⟩⟩
        case measure => simp [intOf]; omega
      · have hd : (ce != 0) = true := by simpa using hce
        have hd0 : (ce == 0) = false := by simpa using hce
        have hfin : Hid (vecR s at_ err = ([], cp, ce)) := by
          have he : (dotIter s ([], y) (k + 1)).2 = (cp, ce) := by rw [HS.out]
          have h2 := dotIter_err (n := n) (by omega : k + 1 ≤ n) (by rw [he]; exact hce)
          unfold Hid
          rw [HV.out, if_neg (by rw [h2, he]; exact hce), h2, he]
        clear hce
        go_wp2_with (first
          | (go_at_call 109; (with_reducible refine (V1.out _ hI).mono ?_); rintro e w3 ⟨rfl, I3, K3⟩)
          | (go_at_call 109; (with_reducible refine (V2.out _ I3).mono ?_); rintro e w4 ⟨rfl, I4, K4⟩)
          | (go_at_call 125; (refine (readerErr g s cp ce _ I4).mono ?_); rintro e w5 ⟨rfl, rfl⟩))
        go_ret
        exact take_nil hfin.out ⟨I4, (hK.trans K3 (fun _ _ h => h)).trans K4 (fun _ _ h => h)⟩
    · obtain rfl : k = n := by omega
      have hlen := dotIter_len s ([], y) k
      have hwf := dotIter_wf s ([], y) (by simp) k
      generalize dotIter s ([], y) k = x at *
      obtain ⟨xs, p, er⟩ := x
      dsimp only at hI HV hlen hv hwf
      have hlen' : xs.length = k := by simpa using hlen
      clear hlen
      subst hlen'
      have hgP : ∀ k, w.heap.size ≤ k → ¬ k = g := fun k hk e => by omega
      by_cases he : er = 0
      · have hd : (er == 0) = true := by simpa using he
        have hd2 : (er != 0) = false := by simpa using he
        have hrd : RdD wr A xs := own_rdD hv hwf
        by_cases hvv : vvalid xs = true
        · have hfin : Hid (vecR s at_ err = (xs, p, er)) := by unfold Hid; rw [HV.out, if_pos he, if_pos hvv]
          clear he
          go_wp2_with (first
            | (go_at_call 125; (refine (readerErr g s p er _ hI).mono ?_); rintro e w5 ⟨rfl, rfl⟩)
            | (go_at_call 191; (refine (vectorValid A c xs _ hrd (by omega)).mono ?_); rintro e w6 ⟨rfl, hb6⟩; have I6 := hI.kp (Kp.of_below (P := fun _ => False) hb6) id; rw [hvv])
            | (go_at_call 125; (refine (readerErr g s p er _ I6).mono ?_); rintro e w5 ⟨rfl, rfl⟩))
          go_ret
          exact take_yes hfin.out (hv.below hb6) ⟨I6, hK.trans (Q := fun k => k = g) (Kp.of_below hb6) (fun _ _ h => h)⟩
        · have hfin : Hid (vecR s at_ err = ([], p, 100)) := by unfold Hid; rw [HV.out, if_pos he, if_neg hvv]
          have hF := fun W h => readerFail g s p er 100 W h
          rw [if_pos he] at hF
          have HF := Lib.hid hF
          have hvf : vvalid xs = false := by simpa using hvv
          clear he hF hvv
          go_wp2_with (first
            | (go_at_call 125; (refine (readerErr g s p er _ hI).mono ?_); rintro e w5 ⟨rfl, rfl⟩)
            | (go_at_call 191; (refine (vectorValid A c xs _ hrd (by omega)).mono ?_); rintro e w6 ⟨rfl, hb6⟩; have I6 := hI.kp (Kp.of_below (P := fun _ => False) hb6) id; rw [hvf])
            | (go_at_call 198; (refine (HF.out _ I6).mono ?_); rintro e w7 ⟨rfl, I7, K7⟩)
            | (go_at_call 125; (refine (readerErr g s p 100 _ I7).mono ?_); rintro e w5 ⟨rfl, rfl⟩))
          go_ret
          exact take_nil hfin.out ⟨I7, (hK.trans (Q := fun k => k = g) (Kp.of_below hb6) (fun _ _ h => h)).trans K7 (fun _ _ h => h)⟩
      · have hd : (er == 0) = false := by simpa using he
        have hd2 : (er != 0) = true := by simpa using he
        have hfin : Hid (vecR s at_ err = ([], p, er)) := by unfold Hid; rw [HV.out, if_neg he]
        clear he
        go_wp2_with (go_at_call 125; (refine (readerErr g s p er _ hI).mono ?_); rintro e w5 ⟨rfl, rfl⟩)
        go_ret
        exact take_nil hfin.out ⟨hI, hK⟩

set_option maxRecDepth 100000 in
set_option maxHeartbeats 2000000 in
theorem refTake (g : Nat) (s : ByteArray) (at_ : Nat) (err : Int) (w : World) (h : IsR 157 w g s at_ err) :
    Calls Try.prog 194 #[.pointer (some ⟨g, 0, none⟩)] w (TakePost 157 g s at_ err w) := by
  have hgl : g < w.heap.size := lt_of_heap h.1
  have hn64 : ((rdU s at_ err 64).1 : Int) ≤ 64 := rdU_le (by decide)
  have hU := refReadUint g s at_ err 64 w h
  generalize hv : rdU s at_ err 64 = n0 at *
  obtain ⟨n, y⟩ := n0
  have HV := Lib.hid (vecR_of hv)
  have HU := Lib.hid hU
  clear hv hU
  obtain ⟨i0, hi, hz0, hz1, hz2⟩ := info_parts infoDot
  go_enter Try.func194, Try.ntmps194
  go_wp2_with (go_at_call 195; refine HU.out.mono ?_; rintro e w2 ⟨rfl, hw2⟩)
  have hn : n ≤ 64 := by have : ((n : Nat) : Int) ≤ 64 := hn64; omega
  go_loopw [4, 5] (fun v i W => ∃ (k : Nat) (A : Option Addr) (c : Nat), v = .slice A k c ∧ i = .int .u64 k ∧ k ≤ n ∧ Own W (fun k => w.heap.size ≤ k) 50 2 (.slice A k c) k (((dotIter s ([], y) k).1.map dotV).flatten) ∧ RKp 157 g s w (dotIter s ([], y) k).2.1 (dotIter s ([], y) k).2.2 W) (fun _ i _ => n - (intOf i).toNat)
  case atStart => exact ⟨0, none, 0, rfl, rfl, Nat.zero_le _, Own.nil _ _ _ _, hw2⟩
  case round =>
    clear hw2
    obtain ⟨k, A, c, rfl, rfl, hk, hv, hI, hK⟩ := hrel
    by_cases hkn : k < n
    · have hstep : dotIter s ([], y) (k + 1) = dotStep s (dotIter s ([], y) k) := rfl
      unfold dotStep at hstep
      have b1 := rdU_le (s := s) (at_ := (dotIter s ([], y) k).2.1) (err := (dotIter s ([], y) k).2.2) (most := 4294967295) (by decide)
      have b2 := rdU_le (s := s) (at_ := (rdU s (dotIter s ([], y) k).2.1 (dotIter s ([], y) k).2.2 4294967295).2.1) (err := (rdU s (dotIter s ([], y) k).2.1 (dotIter s ([], y) k).2.2 4294967295).2.2) (most := 1099511627776) (by decide)
      have U1 := fun W h => refReadUint g s (dotIter s ([], y) k).2.1 (dotIter s ([], y) k).2.2 4294967295 W h
      have U2 := fun W h => refReadUint g s (rdU s (dotIter s ([], y) k).2.1 (dotIter s ([], y) k).2.2 4294967295).2.1 (rdU s (dotIter s ([], y) k).2.1 (dotIter s ([], y) k).2.2 4294967295).2.2 1099511627776 W h
      generalize (rdU s (rdU s (dotIter s ([], y) k).2.1 (dotIter s ([], y) k).2.2 4294967295).2.1 (rdU s (dotIter s ([], y) k).2.1 (dotIter s ([], y) k).2.2 4294967295).2.2 1099511627776) = cc at *
      generalize (rdU s (dotIter s ([], y) k).2.1 (dotIter s ([], y) k).2.2 4294967295) = aa at *
      have hlen := dotIter_len s ([], y) k
      obtain ⟨cv, cp, ce⟩ := cc
      obtain ⟨av, ap, ae⟩ := aa
      have V1 := Lib.hid U1
      have V2 := Lib.hid U2
      have HS := Lib.hid hstep
      clear hstep U1 U2
      have b1' : (av : Int) ≤ 4294967295 := b1
      have b2' : (cv : Int) ≤ 1099511627776 := b2
      clear b1 b2
      generalize dotIter s ([], y) k = x at *
      obtain ⟨xs, p, er⟩ := x
      dsimp only at hI V1 V2 HS hlen hv
      have hgP : ∀ k, w.heap.size ≤ k → ¬ k = g := fun k hk e => by omega
      have hlen' : xs.length = k := by simpa using hlen
      go_wp2_with (first
        | (go_at_call 195; (with_reducible refine (V1.out _ hI).mono ?_); rintro e w3 ⟨rfl, I3, K3⟩)
        | (go_at_call 195; (with_reducible refine (V2.out _ I3).mono ?_); rintro e w4 ⟨rfl, I4, K4⟩; have ow4 := (hv.kp (K3) hgP).kp K4 hgP)
        | (at_builtin; refine wpList_append_lies _ rfl (.tmp 19) (.tmp 24) 22 rfl 0 50 i0 (.agg #[.int .u32 0, .int .u64 0]) 2 16 Try.underlying22 hi hz0 hz1 hz2 rfl (by decide) _ _ _ rfl (ow4.alloc _).1 ⟨w4.heap.size, 0, none⟩ 1 1 [.int .u32 av, .int .u64 cv] rfl rfl (World.news_of_block (heap_alloc_new w4 _)) (by simp [Value.oneCell']) (by decide) ?c3 ?c4 (Nat.zero_le _) _ rfl ?_; (case c3 => unfold maxLen; omega); (case c4 => omega); intro g1 cap w5 hown hgrow hat hlt))
      go_roundw
      case rel => exact ⟨k + 1, some ⟨g1, 0, none⟩, cap, by go_num, by go_num, by omega, by
        rw [HS.out]
        refine own_grown ow4 ((hK.trans K3 (fun _ _ h => h)).trans K4 (fun _ _ h => h)).size hgrow hat ?_
        simpa [dotV] using hown, by
        rw [HS.out]
        exact ⟨I4.grown hgl ow4 hgrow, kp_grown ((hK.trans K3 (fun _ _ h => h)).trans K4 (fun _ _ h => h)) ow4 hgrow⟩⟩
      case measure => simp [intOf]; omega
    · obtain rfl : k = n := by omega
      have hlen := dotIter_len s ([], y) k
      have hwf := dotIter_wf s ([], y) (by simp) k
      generalize dotIter s ([], y) k = x at *
      obtain ⟨xs, p, er⟩ := x
      dsimp only at hI HV hlen hv hwf
      have hlen' : xs.length = k := by simpa using hlen
      clear hlen
      subst hlen'
      have hgP : ∀ k, w.heap.size ≤ k → ¬ k = g := fun k hk e => by omega
      obtain ⟨c0, c1, c2, f0, f1, f2, -, -, -⟩ := hI.open_
      by_cases he : er = 0
      · have hd : (er == 0) = true := by simpa using he
        have hd2 : (er != 0) = false := by simpa using he
        have hrd : RdD wr A xs := own_rdD hv hwf
        by_cases hvv : vvalid xs = true
        · have hfin : Hid (vecR s at_ err = (xs, p, er)) := by unfold Hid; rw [HV.out, if_pos he, if_pos hvv]
          clear he
          go_wp2_with (go_at_call 188; (refine (refVecValid A c xs _ hrd).mono ?_); rintro e w6 ⟨rfl, hb6⟩; have I6 := hI.kp (Kp.of_below (P := fun _ => False) hb6) id; rw [hvv]; obtain ⟨d0, d1, d2, p0, p1, p2, -, -, -⟩ := I6.open_)
          go_ret
          exact take_yes hfin.out (hv.below hb6) ⟨I6, hK.trans (Q := fun k => k = g) (Kp.of_below hb6) (fun _ _ h => h)⟩
        · have hfin : Hid (vecR s at_ err = ([], p, 100)) := by unfold Hid; rw [HV.out, if_pos he, if_neg hvv]
          have hF := fun W h => refFail g s p er 100 W h
          rw [if_pos he] at hF
          have HF := Lib.hid hF
          have hvf : vvalid xs = false := by simpa using hvv
          clear he hF hvv
          go_wp2_with (first
            | (go_at_call 188; (refine (refVecValid A c xs _ hrd).mono ?_); rintro e w6 ⟨rfl, hb6⟩; have I6 := hI.kp (Kp.of_below (P := fun _ => False) hb6) id; rw [hvf])
            | (go_at_call 253; (refine (HF.out _ I6).mono ?_); rintro e w7 ⟨rfl, I7, K7⟩; obtain ⟨d0, d1, d2, p0, p1, p2, -, -, -⟩ := I7.open_))
          go_ret
          exact take_nil hfin.out ⟨I7, (hK.trans (Q := fun k => k = g) (Kp.of_below hb6) (fun _ _ h => h)).trans K7 (fun _ _ h => h)⟩
      · have hd : (er == 0) = false := by simpa using he
        have hd2 : (er != 0) = true := by simpa using he
        have hfin : Hid (vecR s at_ err = ([], p, er)) := by unfold Hid; rw [HV.out, if_neg he]
        clear he
        go_wp2
        go_ret
        exact take_nil hfin.out ⟨hI, hK⟩
end Go.Proofs.Ytfdiedcleggfnaa
