/- dvv.Decode. -/
import Derived.Test.YtfdiedcleggfnaaTake
namespace Go.Proofs.Ytfdiedcleggfnaa
open Go.RowKit Go.Sort
attribute [local go_sem] grow_cell

theorem infoSib : (Try.prog.info? 145).map (fun i => (i.zero, i.size, i.bytes)) = some (some (.agg #[.int .u32 0, .int .u64 0, .bool false, .string ⟨#[]⟩]), 4, 40) := by kernel_rfl

theorem vecR_len (s : ByteArray) (at_ : Nat) (err : Int) : (vecR s at_ err).1.length ≤ 64 := by
  have h := dotIter_len s ([], (rdU s at_ err 64).2) (rdU s at_ err 64).1
  have h2 := rdU_le (s := s) (at_ := at_) (err := err) (most := 64) (by decide)
  unfold vecR
  split
  · split
    · rw [h]; simp only [List.length_nil]; omega
    · simp
  · simp
/-- A block of cells that is not frozen. -/
def Blk (w : World) (k : Nat) (cs : Array Value) (T : TypeId) : Prop := w.heap[k]? = some (.cells cs T (0, 0))
theorem Blk.lt {w : World} {k : Nat} {cs : Array Value} {T : TypeId} (h : Blk w k cs T) : k < w.heap.size := lt_of_heap h
theorem Blk.c {w : World} {k : Nat} {cs : Array Value} {T : TypeId} (h : Blk w k cs T) (i : Nat) : w.cell? ⟨k, i, none⟩ = cs[i]? := cell_of_row w k i cs T (0, 0) h
theorem Blk.f {w : World} {k : Nat} {cs : Array Value} {T : TypeId} (h : Blk w k cs T) (i : Nat) : w.frozen? ⟨k, i, none⟩ = false := by unfold Blk at h; simp [World.frozen?, h]
theorem Blk.new (w : World) (cs : Array Value) (T : TypeId) : Blk (w.alloc (.cells cs T)) w.heap.size cs T := heap_alloc_new w _
theorem Blk.set {w : World} {k : Nat} {cs : Array Value} {T : TypeId} (h : Blk w k cs T) (i : Nat) (v : Value) : Blk (w.setCell ⟨k, i, none⟩ v) k (cs.setIfInBounds i v) T := by
  unfold Blk at h ⊢; simp only [World.setCell, Array.getElem?_modify]; simp [h]
theorem Blk.kp {P : Nat → Prop} {w w' : World} {k : Nat} {cs : Array Value} {T : TypeId} (h : Blk w k cs T) (hk : Kp P w w') (hp : ¬ P k) : Blk w' k cs T := (hk.block k h.lt hp).trans h
theorem Blk.setO {w : World} {k : Nat} {cs : Array Value} {T : TypeId} (h : Blk w k cs T) (p : Addr) (v : Value) (hp : k ≠ p.block) : Blk (w.setCell p v) k cs T :=
  h.kp (P := fun k => k = p.block) (Kp.set (P := fun k => k = p.block) (Kp.refl _ w) (.inl rfl) v) hp
theorem Blk.alloc {w : World} {k : Nat} {cs : Array Value} {T : TypeId} (h : Blk w k cs T) (o : Obj) : Blk (w.alloc o) k cs T := h.kp (P := fun _ => False) ((Kp.refl _ w).alloc o) id
theorem IsR.alloc {T : TypeId} {w : World} {g : Nat} {s : ByteArray} {at_ : Nat} {err : Int} (h : IsR T w g s at_ err) (o : Obj) : IsR T (w.alloc o) g s at_ err := h.kp (P := fun _ => False) ((Kp.refl _ w).alloc o) id
theorem IsR.setO {T : TypeId} {w : World} {g : Nat} {s : ByteArray} {at_ : Nat} {err : Int} (h : IsR T w g s at_ err) (p : Addr) (v : Value) (hp : g ≠ p.block) : IsR T (w.setCell p v) g s at_ err :=
  h.kp (P := fun k => k = p.block) (Kp.set (P := fun k => k = p.block) (Kp.refl _ w) (.inl rfl) v) hp

/-- One sibling read, and its third byte. -/
def sibOf (a c b : Nat) (t : ByteArray) : Sib := ⟨⟨a, c⟩, (b : Int) == 1, t⟩
def sibStep (s : ByteArray) (x : List (Sib × Nat) × Nat × Int) : List (Sib × Nat) × Nat × Int :=
  let a := rdU s x.2.1 x.2.2 4294967295
  let c := rdU s a.2.1 a.2.2 1099511627776
  let b := rdB s c.2.1 c.2.2
  let t := rdT s b.2.1 b.2.2 40
  (x.1 ++ [(sibOf a.1 c.1 b.1 t.1, b.1)], t.2)
theorem sibStep_eq {s : ByteArray} {x : List (Sib × Nat) × Nat × Int} {aa cc bb : Nat × Nat × Int} {tt : ByteArray × Nat × Int} (h1 : rdU s x.2.1 x.2.2 4294967295 = aa) (h2 : rdU s aa.2.1 aa.2.2 1099511627776 = cc) (h3 : rdB s cc.2.1 cc.2.2 = bb) (h4 : rdT s bb.2.1 bb.2.2 40 = tt) :
    sibStep s x = (x.1 ++ [(sibOf aa.1 cc.1 bb.1 tt.1, bb.1)], tt.2) := by subst h1 h2 h3 h4; rfl
def sibIter (s : ByteArray) (x : List (Sib × Nat) × Nat × Int) : Nat → List (Sib × Nat) × Nat × Int
  | 0 => x
  | k + 1 => sibStep s (sibIter s x k)
theorem sibIter_len (s : ByteArray) (x : List (Sib × Nat) × Nat × Int) (k : Nat) : (sibIter s x k).1.length = x.1.length + k := by
  induction k with
  | zero => rfl
  | succ k ih => rw [sibIter, sibStep]; simp [ih]; omega
theorem sibIter_more {s : ByteArray} {x : List (Sib × Nat) × Nat × Int} {k n : Nat} (hk : k ≤ n) {z : Sib × Nat} (h : z ∈ (sibIter s x k).1) : z ∈ (sibIter s x n).1 := by
  induction n with
  | zero => have : k = 0 := by omega
            subst this; exact h
  | succ n ih =>
    by_cases e : k = n + 1
    · subst e; exact h
    · rw [sibIter, sibStep]; exact List.mem_append_left _ (ih (by omega))
theorem rdB_le {s : ByteArray} {at_ : Nat} {err : Int} : (rdB s at_ err).1 ≤ 255 := by
  unfold rdB
  have := byteAt_lt s at_
  split
  · split
    · simp only; omega
    · simp
  · simp
theorem rdT_size {s : ByteArray} {at_ : Nat} {err most : Int} (h0 : 0 ≤ most) : ((rdT s at_ err most).1.size : Int) ≤ most := by
  unfold rdT
  split
  · split
    · rename_i h
      have := (uvar_ok h).1
      split
      · simp only [ByteArray.size_extract]; omega
      · exact h0
    · exact h0
  · exact h0
theorem sibIter_wf (s : ByteArray) (x : List (Sib × Nat) × Nat × Int) (hx : ∀ z ∈ x.1, sibWf z.1) (k : Nat) : ∀ z ∈ (sibIter s x k).1, sibWf z.1 := by
  induction k with
  | zero => exact hx
  | succ k ih =>
    intro z hz
    rw [sibIter, sibStep_eq rfl rfl rfl rfl] at hz
    rcases List.mem_append.1 hz with hz | hz
    · exact ih z hz
    · rw [List.mem_singleton] at hz
      subst hz
      have h1 := rdU_le (s := s) (at_ := (sibIter s x k).2.1) (err := (sibIter s x k).2.2) (most := 4294967295) (by decide)
      generalize rdU s (sibIter s x k).2.1 (sibIter s x k).2.2 4294967295 = aa at *
      have h2 := rdU_le (s := s) (at_ := aa.2.1) (err := aa.2.2) (most := 1099511627776) (by decide)
      generalize rdU s aa.2.1 aa.2.2 1099511627776 = cc at *
      generalize rdB s cc.2.1 cc.2.2 = bb at *
      have h3 := rdT_size (s := s) (at_ := bb.2.1) (err := bb.2.2) (most := 40) (by decide)
      refine ⟨⟨by simp [sibOf], by simpa [sibOf] using h1, by simp [sibOf], by simp only [sibOf]; omega⟩, ?_⟩
      simp only [sibOf]; omega

/-- What is read as a state: the state, the third bytes, where the reader stands, its error. -/
def stN (s : ByteArray) : Nat × Nat × Int := rdU s (vecR s 0 0).2.1 (vecR s 0 0).2.2 64
def stX (s : ByteArray) : List (Sib × Nat) × Nat × Int := sibIter s ([], (stN s).2) (stN s).1
def stR (s : ByteArray) : St := ⟨(vecR s 0 0).1, (stX s).1.map Prod.fst⟩
/-- The program's answer. -/
def decOk (s : ByteArray) : Bool := decide ((∀ z ∈ (stX s).1, z.2 ≤ 1) ∧ rdEnd s (stX s).2.1 (stX s).2.2 = 0 ∧ svalid (stR s) = true)
/-- What a Decode leaves: the state or none, in memory of its own. -/
def DecPost (ok : Bool) (s : ByteArray) (w : World) (e : Ending) (w' : World) : Prop :=
  ∃ (st : St) (er : Int) (A B : Option Addr) (c d : Nat), (if ok = true then st = stR s ∧ er = 0 else st = ⟨[], []⟩ ∧ er = 110) ∧
    e = .returned (.tuple #[.agg #[.slice A st.seen.length c, .slice B st.sibs.length d], .int .i64 er]) ∧
    Own w' (fun k => w.heap.size ≤ k) 50 2 (.slice A st.seen.length c) st.seen.length ((st.seen.map dotV).flatten) ∧
    Own w' (fun k => w.heap.size ≤ k) 145 4 (.slice B st.sibs.length d) st.sibs.length ((st.sibs.map sibV).flatten) ∧
    (∀ d ∈ st.seen, dotWf d) ∧ (∀ x ∈ st.sibs, sibWf x) ∧ Below w.heap.size w w'
theorem dec_no {ok : Bool} {s : ByteArray} {w w' : World} (h : ok = false) (hb : Below w.heap.size w w') : DecPost ok s w (.returned (.tuple #[.agg #[.slice none 0 0, .slice none 0 0], .int .i64 110])) w' :=
  ⟨⟨[], []⟩, 110, none, none, 0, 0, by simp [h], rfl, Own.nil _ _ _ _, Own.nil _ _ _ _, by simp, by simp, hb⟩

/-- What a Decode holds in memory: its answer's cell, its state's, the two lists, below z. -/
def Mem (w W : World) (q z : Nat) (A : Option Addr) (c : Nat) (vs : List Dot) (B : Option Addr) (k d : Nat) (cs : List Value) : Prop :=
  Blk W w.heap.size #[.slice none 0 0, .slice none 0 0] 25 ∧ Blk W q #[.slice A vs.length c, .slice B k d] 25 ∧
  Own W (fun i => q < i ∧ i < z) 145 4 (.slice B k d) k cs ∧ Own W (fun i => w.heap.size + 1 < i ∧ i < q) 50 2 (.slice A vs.length c) vs.length ((vs.map dotV).flatten) ∧ Below w.heap.size w W
theorem Mem.kp {P : Nat → Prop} {w W W' : World} {q z : Nat} {A : Option Addr} {c : Nat} {vs : List Dot} {B : Option Addr} {k d : Nat} {cs : List Value} (h : Mem w W q z A c vs B k d cs)
    (hk : Kp P W W') (hq : w.heap.size + 1 < q) (hz : q < z) (hP : ∀ i, P i → i = w.heap.size + 1 ∨ z ≤ i) : Mem w W' q z A c vs B k d cs := by
  obtain ⟨h1, h2, h3, h4, h5⟩ := h
  refine ⟨h1.kp hk (fun h => ?_), h2.kp hk (fun h => ?_), h3.kp hk (fun i hi h => ?_), h4.kp hk (fun i hi h => ?_), h5.trans (hk.below h5.size (fun i h => ?_))⟩
  all_goals (have := hP _ h; omega)
theorem Mem.alloc {w W : World} {q z : Nat} {A : Option Addr} {c : Nat} {vs : List Dot} {B : Option Addr} {k d : Nat} {cs : List Value} (h : Mem w W q z A c vs B k d cs)
    (o : Obj) (hq : w.heap.size + 1 < q) (hz : q < z) : Mem w (W.alloc o) q z A c vs B k d cs :=
  h.kp (P := fun _ => False) ((Kp.refl _ W).alloc o) hq hz (fun _ => False.elim)
theorem Mem.up {w W : World} {q z z' : Nat} {A : Option Addr} {c : Nat} {vs : List Dot} {B : Option Addr} {k d : Nat} {cs : List Value} (h : Mem w W q z A c vs B k d cs) (hz : z ≤ z') : Mem w W q z' A c vs B k d cs :=
  ⟨h.1, h.2.1, h.2.2.1.mono (fun i _ hi => ⟨hi.1, by omega⟩), h.2.2.2⟩
theorem Mem.set {w W : World} {q z : Nat} {A : Option Addr} {c : Nat} {vs : List Dot} {B : Option Addr} {k d : Nat} {cs : List Value} (h : Mem w W q z A c vs B k d cs)
    (i : Nat) (v : Value) (hq : w.heap.size + 1 < q) (hz : q < z) : Mem w (W.setCell ⟨z, i, none⟩ v) q z A c vs B k d cs :=
  h.kp (P := fun k => k = z) (Kp.set (P := fun k => k = z) (Kp.refl _ W) (.inl rfl) v) hq hz (fun i hi => by omega)

theorem heap_new_set (w : World) (p : Addr) (v : Value) (o : Obj) : ((w.setCell p v).alloc o).heap[w.heap.size]? = some o := by
  have h := heap_alloc_new (w.setCell p v) o
  rwa [show (w.setCell p v).heap.size = w.heap.size from by simp [World.setCell]] at h
theorem retSt {fn : Func} {R : Ending → World → Prop} {a : Act} {W : World} {r : Nat} {A B : Option Addr} {n c m d : Nat} {E : Value} (hf : fn.results = #[ResultVar.cell 2 25, ResultVar.tmp 3])
    (h2 : a.tmps.getD 2 undef = .pointer (some ⟨r, 0, none⟩)) (h3 : a.tmps.getD 3 undef = E) (hd : a.defers = []) (hb : Blk W r #[.slice A n c, .slice B m d] 25)
    (hR : R (.returned (.tuple #[.agg #[.slice A n c, .slice B m d], E])) W) : bodyPost Try.prog fn R .ret a W := by
  have e0 := hb.c 0
  have e1 := hb.c 1
  dsimp at e0 e1
  rw [Array.getD_eq_getD_getElem?] at h2 h3
  refine bodyPost_ret ?_ hd hR
  simp only [results, hf]
  simp [go_sem, h2, h3, e0, e1]
theorem own_rdS {w : World} {P : Nat → Prop} {A : Option Addr} {c : Nat} {xs : List Sib} (h : Own w P 145 4 (.slice A xs.length c) xs.length ((xs.map sibV).flatten)) (hw : ∀ x ∈ xs, sibWf x) : RdS w A xs :=
  ⟨h.rd (by intro x hx; obtain ⟨d, _, rfl⟩ := List.mem_map.1 hx; rfl) (by simp), hw⟩
theorem newReaderAt (s : ByteArray) (w : World) (g : Nat) (hg : w.heap.size = g) (hs : s.size ≤ 140737488351232) : Calls Try.prog 107 #[.string s] w fun e w' => e = .returned (.pointer (some ⟨g, 0, none⟩)) ∧ IsR 247 w' g s 0 0 ∧ Below g w w' ∧ w'.heap.size = g + 1 := by
  subst hg; exact newReader s w hs

set_option maxRecDepth 100000 in
set_option maxHeartbeats 2000000 in
theorem dvvDecode (s : ByteArray) (w : World) (hs : s.size ≤ 140737488351232) :
    Calls Try.prog 24 #[.string s] w (DecPost (decOk s) s w) := by
  have hB0 := Below.refl w.heap.size w
  have T1 := fun W h => vectorTake (w.heap.size + 1) s 0 0 W h
  have U1 := fun W h => rUint (w.heap.size + 1) s (vecR s 0 0).2.1 (vecR s 0 0).2.2 64 W h
  have hn64 : ((stN s).1 : Int) ≤ 64 := rdU_le (by decide)
  have hX : stX s = sibIter s ([], (stN s).2) (stN s).1 := rfl
  have hvwf := vecR_wf s 0 0
  have hvlen := vecR_len s 0 0
  have hR : stR s = ⟨(vecR s 0 0).1, (stX s).1.map Prod.fst⟩ := rfl
  unfold TakePost at T1
  rw [show rdU s (vecR s 0 0).2.1 (vecR s 0 0).2.2 64 = stN s from rfl] at U1
  generalize stN s = nn at *
  generalize vecR s 0 0 = vv at *
  obtain ⟨vs, vp, ve⟩ := vv
  obtain ⟨n, y⟩ := nn
  dsimp only at T1 U1 hX hn64 hR hvwf hvlen
  have HT := Lib.hid T1
  have HU := Lib.hid U1
  have HX := Lib.hid hX
  have HR := Lib.hid hR
  clear T1 U1 hX hR
  obtain ⟨i0, hi, hz0, hz1, hz2⟩ := info_parts infoSib
  go_enter Try.func24, Try.ntmps24
  go_wp2_with (first
    | (go_at_call 107; (with_reducible refine (newReaderAt s _ (w.heap.size + 1) (by simp) hs).mono ?_); rintro e w2 ⟨rfl, I2, hb2, hs2⟩)
    | (go_at_call 108; (with_reducible refine (HT.out _ I2).mono ?_); rintro e w3 ⟨A, c, rfl, ow3, I3, K3⟩; have I3' := I3.alloc (.cells #[.slice A vs.length c, .slice none 0 0] 25))
    | (go_at_call 109; (with_reducible refine (HU.out _ I3').mono ?_); rintro e w4 ⟨rfl, I4, K4⟩))
  -- what stands now
  have hs3 : w.heap.size + 1 + 1 ≤ w3.heap.size := by have := K3.size; omega
  have r2 : Blk w2 w.heap.size #[.slice none 0 0, .slice none 0 0] 25 := by
    have h := Blk.new w #[.slice none 0 0, .slice none 0 0] 25
    unfold Blk at h ⊢; rw [hb2.block _ (by omega)]; exact h
  have r4 : Blk w4 w.heap.size #[.slice none 0 0, .slice none 0 0] 25 := ((r2.kp K3 (by omega)).alloc _).kp K4 (by omega)
  have q4 : Blk w4 w3.heap.size #[.slice A vs.length c, .slice none 0 0] 25 := (Blk.new w3 _ _).kp K4 (by omega)
  have hB2 : Below w.heap.size w w2 := (hB0.alloc (Nat.le_refl _) _).trans (hb2.mono (by omega))
  have hB3 : Below w.heap.size w w3 := hB2.trans (K3.below (by omega) (by intros; omega))
  have hB4 : Below w.heap.size w w4 := (hB3.alloc hB3.size _).trans (K4.below (by simp; omega) (by intros; omega))
  have ow4 : Own w4 (fun k => w.heap.size + 1 < k ∧ k < w3.heap.size) 50 2 (.slice A vs.length c) vs.length ((vs.map dotV).flatten) :=
    ((ow3.mono (fun k h1 h2 => ⟨by omega, h1⟩)).alloc _).kp K4 (by intros; omega)
  generalize w3.heap.size = q at *
  clear r2 hB2 hB3 ow3 I3 I3' I2 hb2 hs2 K3 K4
  go_loopw [18] (fun i W => ∃ (k : Nat) (B : Option Addr) (d : Nat), i = .int .i64 k ∧ k ≤ n ∧ IsR 247 W (w.heap.size + 1) s (sibIter s ([], y) k).2.1 (sibIter s ([], y) k).2.2 ∧ Blk W w.heap.size #[.slice none 0 0, .slice none 0 0] 25 ∧
    Blk W q #[.slice A vs.length c, .slice B k d] 25 ∧ Own W (fun k => q < k) 145 4 (.slice B k d) k (((sibIter s ([], y) k).1.map (fun z => sibV z.1)).flatten) ∧
    Own W (fun k => w.heap.size + 1 < k ∧ k < q) 50 2 (.slice A vs.length c) vs.length ((vs.map dotV).flatten) ∧ Below w.heap.size w W ∧ Hid (∀ z ∈ (sibIter s ([], y) k).1, z.2 ≤ 1)) (fun i _ => n - (intOf i).toNat)
  case atStart => exact ⟨0, none, 0, rfl, Nat.zero_le _, I4, r4, q4, Own.nil _ _ _ _, ow4, hB4, by intro z hz; simp [sibIter] at hz⟩
  case round =>
    clear r4 q4 hB4 ow4 I4
    obtain ⟨k, B, d, rfl, hk, I, rB, qB, oB, oA, hB, hone⟩ := hrel
    have hS := hB.size
    have hql := qB.lt
    by_cases hkn : k < n
    · have hstep : sibIter s ([], y) (k + 1) = sibStep s (sibIter s ([], y) k) := rfl
      have hlen := sibIter_len s ([], y) k
      have hmore := fun z => sibIter_more (s := s) (x := ([], y)) (k := k + 1) (n := n) (by omega) (z := z)
      generalize hx : sibIter s ([], y) k = x at *
      obtain ⟨xs, p, er⟩ := x
      dsimp only at I oB hlen hone
      have U1 := fun W h => rUint (w.heap.size + 1) s p er 4294967295 W h
      have b1 := rdU_le (s := s) (at_ := p) (err := er) (most := 4294967295) (by decide)
      generalize h1 : rdU s p er 4294967295 = aa at *
      obtain ⟨av, ap, ae⟩ := aa
      have U2 := fun W h => rUint (w.heap.size + 1) s ap ae 1099511627776 W h
      have b2 := rdU_le (s := s) (at_ := ap) (err := ae) (most := 1099511627776) (by decide)
      generalize h2 : rdU s ap ae 1099511627776 = cc at *
      obtain ⟨cv, cp, ce⟩ := cc
      have U3 := fun W h => rByte (w.heap.size + 1) s cp ce W h
      have b3 := rdB_le (s := s) (at_ := cp) (err := ce)
      generalize h3 : rdB s cp ce = bb at *
      obtain ⟨bv, bp, be⟩ := bb
      have U4 := fun W h => rText (w.heap.size + 1) s bp be 40 W h (by decide) (by decide)
      generalize h4 : rdT s bp be 40 = tt at *
      obtain ⟨tv, tp, te⟩ := tt
      rw [sibStep_eq (x := (xs, p, er)) h1 h2 h3 h4] at hstep
      clear h1 h2 h3 h4 hx
      have V1 := Lib.hid U1
      have V2 := Lib.hid U2
      have V3 := Lib.hid U3
      have V4 := Lib.hid U4
      have HS := Lib.hid hstep
      clear hstep U1 U2 U3 U4
      dsimp only at V1 V2 V3 V4 HS b1 b2 b3
      have hlen' : xs.length = k := by simpa using hlen
      clear hlen
      by_cases hbv : 1 < bv
      · have hd : decide ((1 : Int) < (bv : Int)) = true := decide_eq_true (by omega)
        have hno : Hid (decOk s = false) := by
          unfold Hid decOk
          rw [decide_eq_false_iff_not]
          rintro ⟨ha, -, -⟩
          have := ha (sibOf av cv bv tv, bv) (by rw [HX.out]; refine hmore _ ?_; rw [HS.out]; simp)
          simp only at this; omega
        have hmore' := Lib.hid hmore
        clear hmore
        go_wp2_with (first
          | (go_at_call 109; (with_reducible refine (V1.out _ I).mono ?_); rintro e w5 ⟨rfl, I5, K5⟩; have J5 := I5.alloc (.cells #[.int .u32 av, .int .u64 0, .bool false, .string ⟨#[]⟩] 145); have X5 := Blk.new w5 #[.int .u32 av, .int .u64 0, .bool false, .string ⟨#[]⟩] 145; have hS5 := K5.size; have M5 : Mem w (w5.alloc (.cells #[.int .u32 av, .int .u64 0, .bool false, .string ⟨#[]⟩] 145)) q w5.heap.size A c vs B k d ((xs.map (fun z => sibV z.1)).flatten) := (Mem.kp (z := wr.heap.size) ⟨rB, qB, oB.mono (fun i h1 h2 => ⟨h2, h1⟩), oA, hB⟩ K5 (by omega) hql (fun i hi => .inl hi)).up hS5 |>.alloc _ (by omega) (by omega))
          | (go_at_call 109; (with_reducible refine (V2.out _ J5).mono ?_); rintro e w6 ⟨rfl, I6, K6⟩; have X6 := X5.kp K6 (by omega); have J6 := I6.setO ⟨w5.heap.size, 1, none⟩ (.int .u64 cv) (by simp only; omega); have x6 := X6.c 1; have y6 := X6.f 1; dsimp at x6; have M6 := (M5.kp K6 (by omega) (by omega) (fun i hi => .inl hi)).set 1 (.int .u64 cv) (by omega) (by omega))
          | (go_at_call 110; (with_reducible refine (V3.out _ J6).mono ?_); rintro e w7 ⟨rfl, I7, K7⟩; have X7 : Blk w7 w5.heap.size #[.int .u32 av, .int .u64 cv, .bool false, .string ⟨#[]⟩] 145 := (X6.set 1 (.int .u64 cv)).kp K7 (by omega); have J7 := I7.setO ⟨w5.heap.size, 2, none⟩ (.bool ((bv : Int) == 1)) (by simp only; omega); have x7 := X7.c 2; have y7 := X7.f 2; dsimp at x7; have M7 := (M6.kp K7 (by omega) (by omega) (fun i hi => .inl hi)).set 2 (.bool ((bv : Int) == 1)) (by omega) (by omega))
          | (go_at_call 111; (with_reducible refine (V4.out _ J7).mono ?_); rintro e w8 ⟨rfl, I8, K8⟩; have X8 : Blk w8 w5.heap.size #[.int .u32 av, .int .u64 cv, .bool ((bv : Int) == 1), .string ⟨#[]⟩] 145 := (X7.set 2 (.bool ((bv : Int) == 1))).kp K8 (by omega); have x8 := X8.c 3; have y8 := X8.f 3; dsimp at x8; have z80 := X8.c 0; dsimp at z80; have z81 := X8.c 1; dsimp at z81; have z82 := X8.c 2; dsimp at z82; have M8 := (M7.kp K8 (by omega) (by omega) (fun i hi => .inl hi)); obtain ⟨R8, Q8, oB8, oA8, hB8⟩ := M8; have r80 := R8.c 0; have r81 := R8.c 1; have s80 := R8.f 0; have s81 := R8.f 1; dsimp at r80; dsimp at r81; have q80 := Q8.c 0; have q81 := Q8.c 1; have p80 := Q8.f 0; have p81 := Q8.f 1; dsimp at q80; dsimp at q81; have hS6 := K6.size; have hS7 := K7.size; have hS8 := K8.size; simp only [World.size_alloc, World.setCell, Array.size_modify] at hS6 hS7 hS8))
        refine retSt (r := w.heap.size) (E := .int .i64 110) Try.results24 rfl rfl rfl (((R8.setO ⟨w5.heap.size, 3, none⟩ (.string tv) (by simp only; omega)).set 0 _).set 1 _) ?_
        exact dec_no hno.out (bl_set (bl_set (bl_set hB8 (by simp only; omega) _) (by simp) _) (by simp) _)
      · have hd : decide ((1 : Int) < (bv : Int)) = false := decide_eq_false (by omega)
        clear hmore
        go_wp2_with (first
          | (go_at_call 109; (with_reducible refine (V1.out _ I).mono ?_); rintro e w5 ⟨rfl, I5, K5⟩; have J5 := I5.alloc (.cells #[.int .u32 av, .int .u64 0, .bool false, .string ⟨#[]⟩] 145); have X5 := Blk.new w5 #[.int .u32 av, .int .u64 0, .bool false, .string ⟨#[]⟩] 145; have hS5 := K5.size; have M5 : Mem w (w5.alloc (.cells #[.int .u32 av, .int .u64 0, .bool false, .string ⟨#[]⟩] 145)) q w5.heap.size A c vs B k d ((xs.map (fun z => sibV z.1)).flatten) := (Mem.kp (z := wr.heap.size) ⟨rB, qB, oB.mono (fun i h1 h2 => ⟨h2, h1⟩), oA, hB⟩ K5 (by omega) hql (fun i hi => .inl hi)).up hS5 |>.alloc _ (by omega) (by omega))
          | (go_at_call 109; (with_reducible refine (V2.out _ J5).mono ?_); rintro e w6 ⟨rfl, I6, K6⟩; have X6 := X5.kp K6 (by omega); have J6 := I6.setO ⟨w5.heap.size, 1, none⟩ (.int .u64 cv) (by simp only; omega); have x6 := X6.c 1; have y6 := X6.f 1; dsimp at x6; have M6 := (M5.kp K6 (by omega) (by omega) (fun i hi => .inl hi)).set 1 (.int .u64 cv) (by omega) (by omega))
          | (go_at_call 110; (with_reducible refine (V3.out _ J6).mono ?_); rintro e w7 ⟨rfl, I7, K7⟩; have X7 : Blk w7 w5.heap.size #[.int .u32 av, .int .u64 cv, .bool false, .string ⟨#[]⟩] 145 := (X6.set 1 (.int .u64 cv)).kp K7 (by omega); have J7 := I7.setO ⟨w5.heap.size, 2, none⟩ (.bool ((bv : Int) == 1)) (by simp only; omega); have x7 := X7.c 2; have y7 := X7.f 2; dsimp at x7; have M7 := (M6.kp K7 (by omega) (by omega) (fun i hi => .inl hi)).set 2 (.bool ((bv : Int) == 1)) (by omega) (by omega))
          | (go_at_call 111; (with_reducible refine (V4.out _ J7).mono ?_); rintro e w8 ⟨rfl, I8, K8⟩; have X8 : Blk w8 w5.heap.size #[.int .u32 av, .int .u64 cv, .bool ((bv : Int) == 1), .string ⟨#[]⟩] 145 := (X7.set 2 (.bool ((bv : Int) == 1))).kp K8 (by omega); have x8 := X8.c 3; have y8 := X8.f 3; dsimp at x8; have z80 := X8.c 0; dsimp at z80; have z81 := X8.c 1; dsimp at z81; have z82 := X8.c 2; dsimp at z82; have M8 := (M7.kp K8 (by omega) (by omega) (fun i hi => .inl hi)); obtain ⟨R8, Q8, oB8, oA8, hB8⟩ := M8; have r80 := R8.c 0; have r81 := R8.c 1; have s80 := R8.f 0; have s81 := R8.f 1; dsimp at r80; dsimp at r81; have q80 := Q8.c 0; have q81 := Q8.c 1; have p80 := Q8.f 0; have p81 := Q8.f 1; dsimp at q80; dsimp at q81; have hS6 := K6.size; have hS7 := K7.size; have hS8 := K8.size; simp only [World.size_alloc, World.setCell, Array.size_modify] at hS6 hS7 hS8)
          | (at_builtin; (refine wpList_append_lies _ rfl (.tmp 41) (.tmp 43) 23 rfl 0 145 i0 (.agg #[.int .u32 0, .int .u64 0, .bool false, .string ⟨#[]⟩]) 4 40 Try.underlying23 hi hz0 hz1 hz2 rfl (by decide) _ _ _ rfl (((oB8.set (p := ⟨w5.heap.size, 3, none⟩) (by simp only; omega) (.string tv)).alloc _).1) ⟨w8.heap.size, 0, none⟩ 1 1 [.int .u32 av, .int .u64 cv, .bool ((bv : Int) == 1), .string tv] rfl rfl (World.news_of_block (heap_new_set w8 _ _ _)) (by simp [Value.oneCell']) (by decide) ?c3 ?c4 (Nat.zero_le _) _ rfl ?_); (case c3 => unfold maxLen; omega); (case c4 => omega); intro g1 cap w9 hown hgrow hat hlt; have hw9 : Kp (fun i => q < i) (w8.setCell ⟨w5.heap.size, 3, none⟩ (.string tv)) w9 := ((Kp.refl _ _).alloc _).grown hgrow (fun i hi => .inl (oB8.2 i hi).1); have Q9 := (Q8.setO ⟨w5.heap.size, 3, none⟩ (.string tv) (by simp only; omega)).kp hw9 (by omega); have q91 := Q9.c 1; have p91 := Q9.f 1; dsimp at q91))
        go_roundw
        case rel =>
          refine ⟨k + 1, some ⟨g1, 0, none⟩, cap, by go_num, by omega, ?_, ?_, Q9.set 1 _, ?_, ?_, ?_, ?_⟩
          · rw [HS.out]; exact ((I8.setO ⟨w5.heap.size, 3, none⟩ (.string tv) (by simp only; omega)).kp hw9 (by omega)).setO _ _ (by simp only; omega)
          · exact ((R8.setO ⟨w5.heap.size, 3, none⟩ (.string tv) (by simp only; omega)).kp hw9 (by omega)).setO _ _ (by simp only; omega)
          · rw [HS.out]
            refine Own.set (P := fun i => q < i) ⟨by simpa [sibV, sibOf] using hown, fun i hi => ?_⟩ (by simp) _
            have : g1 = i := by simpa [Value.ownBlock] using hi
            subst this
            rcases hat with e | e
            · exact (oB8.2 _ e).1
            · simp [World.setCell] at e; omega
          · exact ((oA8.set (p := ⟨w5.heap.size, 3, none⟩) (by simp only; omega) (.string tv)).kp hw9 (by intro i hi h; omega)).set (by simp) _
          · exact bl_set ((bl_set hB8 (by simp only; omega) _).trans (hw9.below (by have := hB8.size; simpa [World.setCell] using this) (by intro i hi; omega))) (by simp only; omega) _
          · rw [HS.out]; intro z hz
            rcases List.mem_append.1 hz with hz | hz
            · exact hone z hz
            · rw [List.mem_singleton] at hz; subst hz; simp only; omega
        case measure => simp [intOf]; omega
    · obtain rfl : k = n := by omega
      have hlen := sibIter_len s ([], y) k
      have hwf := sibIter_wf s ([], y) (by simp) k
      generalize sibIter s ([], y) k = x at *
      obtain ⟨xs, p, er⟩ := x
      dsimp only at I oB hlen hone HX HR hwf
      have hlen' : xs.length = k := by simpa using hlen
      clear hlen
      have hm : (xs.map (fun z => sibV z.1)).flatten = ((xs.map Prod.fst).map sibV).flatten := by rw [List.map_map]; rfl
      rw [hm] at oB
      have hwf' : ∀ x ∈ xs.map Prod.fst, sibWf x := by
        intro x hx; obtain ⟨z, hz, rfl⟩ := List.mem_map.1 hx; exact hwf z hz
      have hR2 : Hid (stR s = ⟨vs, xs.map Prod.fst⟩) := by unfold Hid; rw [HR.out, HX.out]
      have hleny : (xs.map Prod.fst).length = k := by simpa using hlen'
      have hone' : Hid (∀ z ∈ (stX s).1, z.2 ≤ 1) := by unfold Hid; rw [HX.out]; exact hone
      have hpe : Hid ((stX s).2 = (p, er)) := by unfold Hid; rw [HX.out]
      clear HX HR hm hone hwf hlen'
      generalize xs.map Prod.fst = ys at *
      subst hleny
      have hne : ∀ i, w.heap.size + 1 < i ∧ i < q → w.heap.size ≤ i := fun i h => by omega
      have hr : RdD wr A vs := own_rdD oA hvwf
      have hsib : RdS wr B ys := own_rdS oB hwf'
      have hvl : vs.length ≤ 4611686018427387904 := by omega
      have hE := fun W h => readerEnd (w.heap.size + 1) s p er W h
      by_cases he : rdEnd s p er = 0
      · rw [he] at hE
        have HE := Lib.hid hE
        have hee : Hid (rdEnd s (stX s).2.1 (stX s).2.2 = 0) := by unfold Hid; rw [hpe.out]; exact he
        clear hE he
        by_cases hv : svalid ⟨vs, ys⟩ = true
        · have hok : Hid (decOk s = true) := decide_eq_true ⟨hone'.out, hee.out, by rw [hR2.out]; exact hv⟩
          have HV := Lib.hid hv
          clear hv
          go_wp2_with (first
            | (go_at_call 112; (refine (HE.out _ I).mono ?_); rintro e w5 ⟨rfl, hb5⟩; have K5 := Kp.of_below (P := fun _ => False) hb5; have Q5 := qB.kp K5 id; have q50 := Q5.c 0; have q51 := Q5.c 1; dsimp at q50; dsimp at q51)
            | (go_at_call 98; (refine (dvvValid A B c d ⟨vs, ys⟩ _ (hr.mono hb5) (hsib.mono hb5) hvl (by dsimp only; omega)).mono ?_); rintro e w6 ⟨rfl, hb6⟩; rw [HV.out]; have K6 := Kp.of_below (P := fun _ => False) (below_of hb5 hb6); have Q6 := qB.kp K6 id; have q60 := Q6.c 0; have q61 := Q6.c 1; dsimp at q60; dsimp at q61; have R6 := rB.kp K6 id; have r60 := R6.c 0; have r61 := R6.c 1; have s60 := R6.f 0; have s61 := R6.f 1; dsimp at r60; dsimp at r61))
          refine retSt (r := w.heap.size) (E := .int .i64 0) Try.results24 rfl rfl rfl ((R6.set 0 _).set 1 _) ?_
          refine ⟨⟨vs, ys⟩, 0, A, B, c, d, by rw [if_pos hok.out]; exact ⟨hR2.out.symm, rfl⟩, rfl, ?_, ?_, hvwf, hwf', ?_⟩
          · exact (((oA.kp K6 (fun _ _ => id)).set (by simp only; omega) _).set (by simp only; omega) _).mono (fun k _ h => by omega)
          · exact (((oB.kp K6 (fun _ _ => id)).set (by simp only; omega) _).set (by simp only; omega) _).mono (fun k _ h => by omega)
          · exact bl_set (bl_set (hB.trans ((below_of hb5 hb6).mono hS)) (by simp) _) (by simp) _
        · have hok : Hid (decOk s = false) := decide_eq_false (fun h => hv (by rw [← hR2.out]; exact h.2.2))
          have hvf : svalid ⟨vs, ys⟩ = false := by simpa using hv
          have HV := Lib.hid hvf
          clear hv hvf
          go_wp2_with (first
            | (go_at_call 112; (refine (HE.out _ I).mono ?_); rintro e w5 ⟨rfl, hb5⟩; have K5 := Kp.of_below (P := fun _ => False) hb5; have Q5 := qB.kp K5 id; have q50 := Q5.c 0; have q51 := Q5.c 1; dsimp at q50; dsimp at q51)
            | (go_at_call 98; (refine (dvvValid A B c d ⟨vs, ys⟩ _ (hr.mono hb5) (hsib.mono hb5) hvl (by dsimp only; omega)).mono ?_); rintro e w6 ⟨rfl, hb6⟩; rw [HV.out]; have K6 := Kp.of_below (P := fun _ => False) (below_of hb5 hb6); have R6 := rB.kp K6 id; have r60 := R6.c 0; have r61 := R6.c 1; have s60 := R6.f 0; have s61 := R6.f 1; dsimp at r60; dsimp at r61))
          refine retSt (r := w.heap.size) (E := .int .i64 110) Try.results24 rfl rfl rfl ((R6.set 0 _).set 1 _) ?_
          exact dec_no hok.out (bl_set (bl_set (hB.trans ((below_of hb5 hb6).mono hS)) (by simp) _) (by simp) _)
      · have hne0 : (rdEnd s p er != 0) = true := by simpa using he
        have HE := Lib.hid hE
        have hok : Hid (decOk s = false) := decide_eq_false (fun h => he (by have := h.2.1; rw [hpe.out] at this; exact this))
        clear he hE
        go_wp2_with (go_at_call 112; (refine (HE.out _ I).mono ?_); rintro e w5 ⟨rfl, hb5⟩; have K5 := Kp.of_below (P := fun _ => False) hb5; have R6 := rB.kp K5 id; have r60 := R6.c 0; have r61 := R6.c 1; have s60 := R6.f 0; have s61 := R6.f 1; dsimp at r60; dsimp at r61)
        refine retSt (r := w.heap.size) (E := .int .i64 110) Try.results24 rfl rfl rfl ((R6.set 0 _).set 1 _) ?_
        exact dec_no hok.out (bl_set (bl_set (hB.trans (hb5.mono hS)) (by simp) _) (by simp) _)
end Go.Proofs.Ytfdiedcleggfnaa
