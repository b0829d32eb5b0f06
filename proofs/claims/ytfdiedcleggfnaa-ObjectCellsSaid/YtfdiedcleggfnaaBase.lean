/- Words and lemmas on memory that this seat's walks share: what is kept, what is owned, what is read. -/
import Derived.Test.YtfdiedcleggfnaaProg
import Derived.Below
import Derived.WalkKit
import Derived.KernelRfl
import Derived.RowKit3
import Derived.BigQuiet
import Derived.Deep.QuietTactic
import Derived.Deep.AppendLies
import Derived.Deep.LoopGhost
import Derived.OwnWalk
import Derived.Lib.Hide
import Derived.Lib.QuietBelow
import Derived.Laws.BytesArg
namespace Go.Proofs.Ytfdiedcleggfnaa
open Go.RowKit

@[simp] theorem add_mk (b o n : Nat) : (⟨b, o, none⟩ : Addr).add n = ⟨b, o + n, none⟩ := by unfold Addr.add; split <;> simp_all

/-! ### What is kept -/
/-- Behind w the world w' is as it was, but for new blocks and the blocks of P. -/
structure Kp (P : Nat → Prop) (w w' : World) : Prop where
  os : w'.os = w.os
  tape : w'.tape = w.tape
  output : w'.output = w.output
  size : w.heap.size ≤ w'.heap.size
  block : ∀ k, k < w.heap.size → ¬ P k → w'.heap[k]? = w.heap[k]?

theorem Kp.refl (P : Nat → Prop) (w : World) : Kp P w w := ⟨rfl, rfl, rfl, Nat.le_refl _, fun _ _ _ => rfl⟩
theorem Kp.trans {P Q : Nat → Prop} {a b c : World} (h : Kp P a b) (k : Kp Q b c) (hq : ∀ i, i < a.heap.size → Q i → P i) : Kp P a c :=
  ⟨k.os.trans h.os, k.tape.trans h.tape, k.output.trans h.output, Nat.le_trans h.size k.size,
    fun i hi hp => (k.block i (Nat.lt_of_lt_of_le hi h.size) (fun q => hp (hq i hi q))).trans (h.block i hi hp)⟩
theorem Kp.mono {P Q : Nat → Prop} {a b : World} (h : Kp P a b) (hq : ∀ i, i < a.heap.size → P i → Q i) : Kp Q a b :=
  ⟨h.os, h.tape, h.output, h.size, fun i hi hp => h.block i hi (fun p => hp (hq i hi p))⟩
theorem Kp.of_below {P : Nat → Prop} {a b : World} (h : Below a.heap.size a b) : Kp P a b := ⟨h.os, h.tape, h.output, h.size, fun i hi _ => h.block i hi⟩
theorem Kp.below {P : Nat → Prop} {a b : World} (h : Kp P a b) {B : Nat} (hB : B ≤ a.heap.size) (hp : ∀ i, P i → B ≤ i) : Below B a b :=
  ⟨h.os, h.tape, h.output, h.size, fun i hi => h.block i (Nat.lt_of_lt_of_le hi hB) (fun p => by have := hp i p; omega)⟩
theorem Kp.alloc {P : Nat → Prop} {a b : World} (h : Kp P a b) (o : Obj) : Kp P a (b.alloc o) :=
  h.trans (Q := fun _ => False) (Kp.of_below ((Below.refl _ _).alloc (Nat.le_refl _) o)) (fun _ _ => False.elim)
theorem Kp.drew {P : Nat → Prop} {a b : World} (h : Kp P a b) : Kp P a b.drew := ⟨h.os, h.tape, h.output, h.size, h.block⟩
theorem Kp.drewN {P : Nat → Prop} {a b : World} (h : Kp P a b) (n : Nat) : Kp P a (b.drewN n) := ⟨h.os, h.tape, h.output, h.size, h.block⟩
theorem Kp.set {P : Nat → Prop} {a b : World} (h : Kp P a b) {p : Addr} (hp : P p.block ∨ a.heap.size ≤ p.block) (u : Value) : Kp P a (b.setCell p u) :=
  h.trans (Q := fun k => k = p.block) ⟨rfl, rfl, rfl, by simp [World.setCell], fun k _ hk => Below.heap_setCell _ _ _ _ hk⟩
    (fun i hi e => by subst e; rcases hp with hp | hp; exact hp; omega)
theorem Kp.grown {P : Nat → Prop} {a b c : World} (h : Kp P a b) {row : Option Nat} (hg : b.grownBy c row) (hr : ∀ k, row = some k → P k ∨ a.heap.size ≤ k) : Kp P a c :=
  h.trans (Q := fun k => row = some k) ⟨hg.os, hg.tape, hg.output, hg.size, fun k hk hp => hg.block k hk (fun e => hp e.symm)⟩
    (fun i hi e => by rcases hr i e with hp | hp; exact hp; omega)
theorem Kp.cell {P : Nat → Prop} {w w' : World} (h : Kp P w w') {p : Addr} {v : Value} (hc : w.cell? p = some v) (hp : ¬ P p.block) : w'.cell? p = some v :=
  (World.cell?_of_block (h.block p.block (World.block_lt_of_cell? w p hc) hp)).trans hc
theorem Kp.frozen {P : Nat → Prop} {w w' : World} (h : Kp P w w') {p : Addr} (hl : p.block < w.heap.size) (hp : ¬ P p.block) : w'.frozen? p = w.frozen? p :=
  World.frozen?_of_block (h.block p.block hl hp)
theorem below_cell {w w' : World} (h : Below w.heap.size w w') {p : Addr} {v : Value} (hc : w.cell? p = some v) : w'.cell? p = some v :=
  (h.cell (World.block_lt_of_cell? w p hc)).trans hc
theorem below_of {a b c : World} (h : Below a.heap.size a b) (k : Below b.heap.size b c) : Below a.heap.size a c := h.trans (k.mono h.size)
theorem lt_of_heap {w : World} {k : Nat} {o : Obj} (h : w.heap[k]? = some o) : k < w.heap.size := (Array.getElem?_eq_some_iff.1 h).1

theorem bl_alloc {w W : World} {B : Nat} (h : Below B w W) (hB : B ≤ W.heap.size) (o : Obj) : Below B w (W.alloc o) := h.alloc hB o
theorem bl_drew {w W : World} {B : Nat} (h : Below B w W) : Below B w W.drew := h.drew
theorem bl_drewN {w W : World} {B : Nat} (h : Below B w W) (n : Nat) : Below B w (W.drewN n) := ⟨h.os, h.tape, h.output, h.size, h.block⟩
theorem bl_set {w W : World} {B : Nat} (h : Below B w W) {p : Addr} (hp : B ≤ p.block) (u : Value) : Below B w (W.setCell p u) := h.setCell hp u
theorem bl_to {w W W2 : World} {B : Nat} (h : Below B w W) (h2 : Below W.heap.size W W2) (hB : B ≤ W.heap.size) : Below B w W2 := h.trans (h2.mono hB)
open Go.Sort in
theorem bl_grow {w W : World} {B : Nat} (h : Below B w W) (hB : B ≤ W.heap.size) (d : Nat) (os : Array Obj) : Below B w (grow (redrawn W d) os) := h.trans ((below_regrown W d os).mono hB)
open Go.Sort in
theorem grow_cell {w : World} {a : Addr} (h : a.block < w.heap.size) (d : Nat) (os : Array Obj) : (grow (redrawn w d) os).cell? a = w.cell? a := (below_regrown w d os).cell h
/-- The blocks of P, and those that were made between two worlds. -/
def Ext (P : Nat → Prop) (a b : World) (k : Nat) : Prop := P k ∨ a.heap.size ≤ k ∧ k < b.heap.size
theorem Kp.ext {P : Nat → Prop} {a b c : World} (h : Kp P a b) (k : Kp (Ext P a b) b c) : Kp P a c :=
  h.trans k (fun i hi hq => by rcases hq with hq | hq; exact hq; omega)
theorem Ext.ext {P : Nat → Prop} {a b c : World} (h1 : a.heap.size ≤ b.heap.size) (h2 : b.heap.size ≤ c.heap.size) (k : Nat) : Ext (Ext P a b) b c k ↔ Ext P a c k := by
  unfold Ext
  constructor
  · rintro ((h | h) | h)
    · exact .inl h
    · exact .inr (by omega)
    · exact .inr (by omega)
  · rintro (h | h)
    · exact .inl (.inl h)
    · by_cases hk : k < b.heap.size
      · exact .inl (.inr (by omega))
      · exact .inr (by omega)

/-! ### What is owned -/
/-- 'v' is a slice of the call's own, its elements' cells are 'cs'; its block is one of P. -/
def Own (w : World) (P : Nat → Prop) (e : TypeId) (sz : Nat) (v : Value) (n : Nat) (cs : List Value) : Prop :=
  w.ownsRow 0 e sz v n cs ∧ ∀ k, v.ownBlock = some k → P k
theorem Own.nil (w : World) (P : Nat → Prop) (e : TypeId) (sz : Nat) : Own w P e sz (.slice none 0 0) 0 [] := ⟨World.ownsRow_nil w 0 e sz, fun k h => by simp [Value.ownBlock] at h⟩
theorem Own.form {w : World} {P : Nat → Prop} {e : TypeId} {sz : Nat} {v : Value} {n : Nat} {cs : List Value} (h : Own w P e sz v n cs) : ∃ A c, v = .slice A n c := by
  rcases h.1.2 with ⟨rfl, rfl⟩ | ⟨g, cap, cur, rfl, _⟩
  · exact ⟨_, _, rfl⟩
  · exact ⟨_, _, rfl⟩
theorem Own.lt {w : World} {P : Nat → Prop} {e : TypeId} {sz : Nat} {v : Value} {n : Nat} {cs : List Value} (h : Own w P e sz v n cs) {k : Nat} (hk : v.ownBlock = some k) : k < w.heap.size := (h.1.lt k hk).2
theorem Own.mono {w : World} {P Q : Nat → Prop} {e : TypeId} {sz : Nat} {v : Value} {n : Nat} {cs : List Value} (h : Own w P e sz v n cs) (hq : ∀ k, k < w.heap.size → P k → Q k) : Own w Q e sz v n cs :=
  ⟨h.1, fun k hk => hq k (h.lt hk) (h.2 k hk)⟩
theorem Own.kp {w w' : World} {P Q : Nat → Prop} {e : TypeId} {sz : Nat} {v : Value} {n : Nat} {cs : List Value} (h : Own w P e sz v n cs) (hk : Kp Q w w') (hd : ∀ k, P k → ¬ Q k) : Own w' P e sz v n cs := by
  refine ⟨?_, h.2⟩
  refine ⟨h.1.1, ?_⟩
  rcases h.1.2 with h1 | ⟨g, cap, cur, rfl, hb, hh, r⟩
  · exact .inl h1
  · exact .inr ⟨g, cap, cur, rfl, hb, (hk.block g (lt_of_heap hh) (hd g (h.2 g rfl))).trans hh, r⟩
theorem Own.below {w w' : World} {P : Nat → Prop} {e : TypeId} {sz : Nat} {v : Value} {n : Nat} {cs : List Value} (h : Own w P e sz v n cs) (hk : Below w.heap.size w w') : Own w' P e sz v n cs :=
  h.kp (Kp.of_below (P := fun _ => False) hk) (fun _ _ => id)
theorem Own.alloc {w : World} {P : Nat → Prop} {e : TypeId} {sz : Nat} {v : Value} {n : Nat} {cs : List Value} (h : Own w P e sz v n cs) (o : Obj) : Own (w.alloc o) P e sz v n cs :=
  h.below ((Below.refl _ _).alloc (Nat.le_refl _) o)
theorem Own.set {w : World} {P : Nat → Prop} {e : TypeId} {sz : Nat} {v : Value} {n : Nat} {cs : List Value} (h : Own w P e sz v n cs) {p : Addr} (hp : ¬ P p.block) (u : Value) : Own (w.setCell p u) P e sz v n cs :=
  h.kp (Q := fun k => k = p.block) (Kp.set (P := fun k => k = p.block) (Kp.refl _ w) (.inl rfl) u) (fun _ hk e => hp (e ▸ hk))

/-! ### What is read -/
/-- A slice's elements, each of 'sz' cells, read as these. -/
def Rd (w : World) (A : Option Addr) (sz : Nat) (vs : List (List Value)) : Prop :=
  ∀ k, k < vs.length → ∃ b o, A = some ⟨b, o, none⟩ ∧ b < w.heap.size ∧ ∀ i v, (vs.getD k [])[i]? = some v → w.cell? ⟨b, o + k * sz + i, none⟩ = some v
theorem Rd.mono {w w' : World} {A : Option Addr} {sz : Nat} {vs : List (List Value)} (h : Rd w A sz vs) (hb : Below w.heap.size w w') : Rd w' A sz vs := by
  intro k hk
  obtain ⟨b, o, e, hl, hc⟩ := h k hk
  refine ⟨b, o, e, Nat.lt_of_lt_of_le hl hb.size, fun i v hv => ?_⟩
  have := hc i v hv
  exact (hb.cell hl).trans this
theorem Rd.kp {w w' : World} {P : Nat → Prop} {A : Option Addr} {sz : Nat} {vs : List (List Value)} (h : Rd w A sz vs) (hb : Kp P w w') (hp : ∀ a, A = some a → ¬ P a.block) : Rd w' A sz vs := by
  intro k hk
  obtain ⟨b, o, e, hl, hc⟩ := h k hk
  exact ⟨b, o, e, Nat.lt_of_lt_of_le hl hb.size, fun i v hv => hb.cell (hc i v hv) (hp ⟨b, o, none⟩ e)⟩
theorem Rd.nil (w : World) (A : Option Addr) (sz : Nat) : Rd w A sz [] := fun k hk => absurd hk (by simp)
theorem getD_map {α : Type} (f : α → List Value) (d : α) (xs : List α) (k : Nat) (hk : k < xs.length) : (xs.map f).getD k [] = f (xs.getD k d) := by
  simp [List.getD_eq_getElem?_getD, List.getElem?_map, List.getElem?_eq_getElem hk]
theorem flat_at {α : Type} (sz : Nat) (vs : List (List α)) (hs : ∀ x ∈ vs, x.length = sz) (k : Nat) (hk : k < vs.length) (i : Nat) (v : α) (hv : (vs.getD k [])[i]? = some v) : vs.flatten[k * sz + i]? = some v := by
  induction vs generalizing k with
  | nil => simp at hk
  | cons x xs ih =>
    have hxl : x.length = sz := hs x (by simp)
    cases k with
    | zero =>
      have hi := (List.getElem?_eq_some_iff.1 hv).1
      simp only [List.getD_cons_zero] at hv hi
      simp only [List.flatten_cons, Nat.zero_mul, Nat.zero_add]
      rw [List.getElem?_append_left (by omega)]; exact hv
    | succ k =>
      have hk' : k < xs.length := by simpa using hk
      have h' := ih (fun y hy => hs y (by simp [hy])) k hk' (by simpa using hv)
      simp only [List.flatten_cons]
      rw [List.getElem?_append_right (by rw [hxl, Nat.add_mul]; omega), hxl, show (k + 1) * sz + i - sz = k * sz + i by rw [Nat.add_mul]; omega]
      exact h'
/-- What is owned is read. -/
theorem Own.rd {w : World} {P : Nat → Prop} {e : TypeId} {sz n : Nat} {A : Option Addr} {c : Nat} {vs : List (List Value)} (h : Own w P e sz (.slice A n c) n vs.flatten) (hs : ∀ x ∈ vs, x.length = sz) (hn : vs.length = n) : Rd w A sz vs := by
  intro k hk
  rcases h.1.2 with ⟨_, h0⟩ | ⟨g, cap, cur, hv, _, hh, h1, h2, h3, h4⟩
  · omega
  · cases hv
    refine ⟨g, 0, rfl, lt_of_heap hh, fun i v hv => ?_⟩
    have hx := List.getElem?_eq_some_iff.1 hv
    obtain ⟨hi, hv⟩ := hx
    have hkl : (vs.getD k []).length = sz := by
      rw [List.getD_eq_getElem?_getD, List.getElem?_eq_getElem hk]; exact hs _ (List.getElem_mem hk)
    have hfl : vs.flatten[k * sz + i]? = some v := flat_at sz vs hs k hk i v (List.getElem?_eq_some_iff.2 ⟨hi, hv⟩)
    have hlt : k * sz + i < n * sz := by
      have : (k + 1) * sz ≤ n * sz := Nat.mul_le_mul_right _ (by omega)
      rw [Nat.add_mul] at this; omega
    rw [← h4, List.getElem?_take, if_pos hlt] at hfl
    rw [cell_of_row w g _ cur e (0, 0) hh]
    simpa using hfl

/-! ### Bytes -/
def vals (bs : List UInt8) : List Value := bs.map fun b => .int .u8 b.toNat
theorem vals_length (bs : List UInt8) : (vals bs).length = bs.length := by simp [vals]
theorem vals_append (a b : List UInt8) : vals (a ++ b) = vals a ++ vals b := by simp [vals]
def strB (bs : List UInt8) : ByteArray := ⟨bs.toArray⟩
theorem vals_flat (bs : List UInt8) : (bs.map fun b => [Value.int .u8 (b.toNat : Int)]).flatten = vals bs := by
  unfold vals
  induction bs with
  | nil => rfl
  | cons x xs ih => simp only [List.map_cons, List.flatten_cons, ih]; rfl
theorem strB_vals (bs : List UInt8) : strOfNums (bs.map fun b => (b.toNat : Int)) = strB bs := by
  unfold strOfNums strB
  rw [List.map_map]
  congr 2
  have : ((fun n : Int => UInt8.ofNat n.toNat) ∘ fun b : UInt8 => (b.toNat : Int)) = id := by funext b; simp
  rw [this, List.map_id]
/-- Bytes of the call's own, as a text. -/
theorem run_told {P : Program} {w : World} {Q : Nat → Prop} {e : TypeId} {v : Value} {bs : List UInt8} (h : Own w Q e 1 v bs.length (vals bs)) (src dst : TypeId) (hs : P.underlying src = some (.slice e)) (he : P.underlying e = some (.int .u8)) (hd : P.underlying dst = some .string) :
    (convert src dst v).run P w = .ok (.string (strB bs)) w := by
  rcases h.1.2 with ⟨rfl, h0⟩ | ⟨g, cap, cur, rfl, _, hh, h1, h2, h3, h4⟩
  · have : bs = [] := List.eq_nil_of_length_eq_zero h0
    subst this
    exact run_convert_bytes_nil w src e hs he _ _ dst hd
  · rw [← strB_vals]
    refine run_convert_bytes_arg w src e hs he g 0 _ cap _ (by simp) (fun i hi => ?_) dst hd
    have hc := Own.rd (vs := bs.map fun b => [Value.int .u8 b.toNat]) (by
      rw [vals_flat]; exact h) (by simp) (by simp) i (by simpa using hi)
    obtain ⟨b, o, e1, _, hc⟩ := hc
    cases e1
    have := hc 0 (.int .u8 ((bs[i]'hi).toNat)) (by simp [List.getD_eq_getElem?_getD, hi])
    simpa [hi] using this
theorem strB_append (a b : List UInt8) : strB a ++ strB b = strB (a ++ b) := by
  apply ByteArray.ext; simp [strB, ByteArray.data_append]
theorem strB_size (a : List UInt8) : (strB a).size = a.length := by simp [strB, ByteArray.size]
theorem strB_data (s : ByteArray) : strB s.data.toList = s := by cases s; rfl
theorem ret_int {k : IntKind} {a b : Int} (h : a = b) : Ending.returned (.int k a) = .returned (.int k b) := by rw [h]
theorem ret_bool {a b : Bool} (h : a = b) : Ending.returned (.bool a) = .returned (.bool b) := by rw [h]
theorem ret_string {a b : ByteArray} (h : a = b) : Ending.returned (.string a) = .returned (.string b) := by rw [h]
end Go.Proofs.Ytfdiedcleggfnaa
