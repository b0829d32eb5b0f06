/- One block of the digest, walked. -/
import Derived.Test.YtfdiedcleggfnaaSha1
import Derived.Test.YtfdiedcleggfnaaRegion
import Derived.Laws.CopyOwn
namespace Go.Proofs.Ytfdiedcleggfnaa
open Go.RowKit Go.Sort
attribute [local go_sem] iw_xor iw_and iw_or iw_andNot iw_not iw_add

/-- The words of 64 bytes. -/
def mW (f : Nat → UInt8) (t : Nat) : W32 := be4 (f (4 * t)) (f (4 * t + 1)) (f (4 * t + 2)) (f (4 * t + 3))
def RdB (w : World) (b o : Nat) (n : Nat) (f : Nat → UInt8) : Prop := b < w.heap.size ∧ ∀ j, j < n → w.cell? ⟨b, o + j, none⟩ = some (.int .u8 (f j).toNat)
theorem RdB.mono {w w' : World} {b o n : Nat} {f : Nat → UInt8} (h : RdB w b o n f) (hb : Below w.heap.size w w') : RdB w' b o n f :=
  ⟨Nat.lt_of_lt_of_le h.1 hb.size, fun j hj => (hb.cell h.1).trans (h.2 j hj)⟩
theorem Blk.drewN {w : World} {k : Nat} {cs : Array Value} {T : TypeId} (h : Blk w k cs T) (n : Nat) : Blk (w.drewN n) k cs T := h
theorem Blk.new' {w : World} {g : Nat} (cs : Array Value) (T : TypeId) (h : w.heap.size = g) : Blk (w.alloc (.cells cs T)) g cs T := by subst h; exact Blk.new w cs T
theorem iw_add' (a b : W32) : (iw a + iw b) % 4294967296 = iw (a + b) := by rw [← iw_add, IntKind.wrap_u32']
theorem iw_add3 (a b c : W32) : (iw a + (iw b + iw c)) % 4294967296 = iw (a + (b + c)) := by rw [← iw_add', ← iw_add']; omega
theorem iw_add4 (a b c d : W32) : (iw a + iw b + iw c + iw d) % 4294967296 = iw (a + b + c + d) := by rw [← iw_add', ← iw_add', ← iw_add']; omega
theorem iw_shr3 (x : W32) : iw x / (8 : Int) = iw (x >>> (3 : Nat)) := iw_shr x 3
theorem iw_shr10 (x : W32) : iw x / (1024 : Int) = iw (x >>> (10 : Nat)) := iw_shr x 10
theorem quiet_add {P : Program} {f : FuncId} {args : Array Value} {w : World} {a n : Nat} {v : Value} (h : Calls P f args (w.drewN (a + n)) fun e w' => e = .returned v ∧ w' = w.drewN (a + n)) :
    Calls P f args (w.drewN (a + n)) fun e w'' => e = .returned v ∧ ∃ m, w'' = w.drewN (a + m) := h.mono fun _ _ ⟨he, hm⟩ => ⟨he, n, hm⟩
attribute [local go_sem] iw_add' iw_shr3 iw_shr10
/-- A turn to the right, told by the number that the code hands over. -/
def rotI (x : W32) (y : Int) : W32 := x.rotateRight (-y).toNat
theorem rotQ (x : W32) (y : Int) (w : World) (h1 : -31 ≤ y) (h2 : y ≤ -1) : Calls Try.prog 303 #[.int .u32 (iw x), .int .i64 y] w fun e w' => e = .returned (.int .u32 (iw (rotI x y))) ∧ w' = w := by
  obtain ⟨n, rfl⟩ : ∃ n : Nat, y = -(n : Int) := ⟨(-y).toNat, by omega⟩
  have e : rotI x (-(n : Int)) = x.rotateRight n := by unfold rotI; congr 1; omega
  rw [e]
  exact (bitsRot x n w (by omega) (by omega)).mono fun _ _ h => ⟨h.1, h.2.symm⟩
theorem kshV_at {j : Nat} (h : j < 64) : kshV[j]? = some (.int .u32 (iw (kAt j))) := by
  unfold kshV kAt
  rw [List.getElem?_toArray, List.getElem?_map, List.getD_eq_getElem?_getD, List.getElem?_eq_getElem (by rw [ksh_length]; exact h)]; rfl
/-- Which word lies at a place of the ring of 16, ahead of the i-th round. -/
def ringT (i j : Nat) : Nat := max i 16 - 1 - (max i 16 - 1 - j) % 16
def ringF (m : Nat → W32) (i j : Nat) : W32 := wAt m (ringT i j)
theorem ring0 (m : Nat → W32) : arrV 16 m = arrV 16 (ringF m 0) := arrV_ext 16 _ _ fun j h => by
  unfold ringF ringT; rw [wAt_lo m (by omega)]; congr 1; omega
theorem ring_lo (m : Nat → W32) {i : Nat} (h : i < 16) : ringF m (i + 1) = ringF m i := by
  funext j; unfold ringF ringT; congr 1; omega
theorem ring_hi (m : Nat → W32) {i : Nat} (h : 16 ≤ i) : arrV 16 (upd (ringF m i) (i % 16) (wAt m i)) = arrV 16 (ringF m (i + 1)) := arrV_ext 16 _ _ fun j hj => by
  unfold upd
  by_cases e : j = i % 16
  · rw [if_pos e]; unfold ringF ringT; congr 1; omega
  · rw [if_neg e]; unfold ringF ringT; congr 1; omega
theorem ringT_hi {i d : Nat} (h : 16 ≤ i) (h1 : d < 16) : ringT i ((i + d) % 16) = i + d - 16 := by unfold ringT; omega
theorem ringT_lo {i : Nat} (h : i < 16) : ringT i (i % 16) = i := by unfold ringT; omega
theorem ringT_next {i : Nat} : ringT (i + 1) (i % 16) = i := by unfold ringT; omega
theorem Kp.row {P : Nat → Prop} {a b : World} (h : Kp P a b) (g : Nat) (cs : Array Value) (hp : P g ∨ a.heap.size ≤ g) : Kp P a (b.setRow g cs) :=
  h.trans (Q := fun k => k = g) ⟨rfl, rfl, rfl, by simp [World.setRow], fun k _ hk => setRow_other b g k cs (fun e => hk (by omega))⟩
    (fun i hi e => by subst e; rcases hp with hp | hp; exact hp; omega)
theorem Blk.row {w : World} {k : Nat} {cs cs' : Array Value} {T : TypeId} (h : Blk w k cs T) : Blk (w.setRow k cs') k cs' T := setRow_heap w k cs cs' T (0, 0) h
theorem Blk.rowO {w : World} {k g : Nat} {cs cs' : Array Value} {T : TypeId} (h : Blk w k cs T) (hk : k ≠ g) : Blk (w.setRow g cs') k cs T := h.kp ((Kp.refl (fun i => i = g) w).row g cs' (.inl rfl)) hk
theorem bl_row {w W : World} {B g : Nat} (h : Below B w W) (hg : B ≤ g) (cs : Array Value) : Below B w (W.setRow g cs) := below_setRow h hg cs
theorem or4 (a b c d : UInt8) : bits .or .u32 (bits .or .u32 (bits .or .u32 ((a.toNat : Int) * 16777216) ((b.toNat : Int) * 65536)) ((c.toNat : Int) * 256)) (d.toNat : Int) = iw (be4 a b c d) := by
  have h1 := a.toNat_lt; have h2 := b.toNat_lt; have h3 := c.toNat_lt; have h4 := d.toNat_lt
  have ea : ((a.toNat : Int) * 16777216) = iw (BitVec.ofNat 32 (a.toNat * 16777216)) := by unfold iw; rw [BitVec.toNat_ofNat, Nat.mod_eq_of_lt (by omega)]; omega
  have eb : ((b.toNat : Int) * 65536) = iw (BitVec.ofNat 32 (b.toNat * 65536)) := by unfold iw; rw [BitVec.toNat_ofNat, Nat.mod_eq_of_lt (by omega)]; omega
  have ec : ((c.toNat : Int) * 256) = iw (BitVec.ofNat 32 (c.toNat * 256)) := by unfold iw; rw [BitVec.toNat_ofNat, Nat.mod_eq_of_lt (by omega)]; omega
  have ed : (d.toNat : Int) = iw (BitVec.ofNat 32 d.toNat) := by unfold iw; rw [BitVec.toNat_ofNat, Nat.mod_eq_of_lt (by omega)]
  rw [ea, eb, ec, ed, iw_or, iw_or, iw_or]
  congr 1
  apply BitVec.eq_of_toNat_eq
  unfold be4
  simp only [BitVec.toNat_or, BitVec.toNat_ofNat]
  rw [Nat.mod_eq_of_lt (by omega), Nat.mod_eq_of_lt (by omega), Nat.mod_eq_of_lt (by omega), Nat.mod_eq_of_lt (by omega), Nat.mod_eq_of_lt (by omega)]
  have k1 : a.toNat * 16777216 ||| b.toNat * 65536 = a.toNat * 16777216 + b.toNat * 65536 := by
    rw [show a.toNat * 16777216 = 2 ^ 24 * a.toNat by omega, ← Nat.two_pow_add_eq_or_of_lt (by omega)]
  have k2 : (a.toNat * 16777216 + b.toNat * 65536) ||| c.toNat * 256 = a.toNat * 16777216 + b.toNat * 65536 + c.toNat * 256 := by
    rw [show a.toNat * 16777216 + b.toNat * 65536 = 2 ^ 16 * (a.toNat * 256 + b.toNat) by omega, ← Nat.two_pow_add_eq_or_of_lt (by omega)]
  have k3 : (a.toNat * 16777216 + b.toNat * 65536 + c.toNat * 256) ||| d.toNat = a.toNat * 16777216 + b.toNat * 65536 + c.toNat * 256 + d.toNat := by
    rw [show a.toNat * 16777216 + b.toNat * 65536 + c.toNat * 256 = 2 ^ 8 * (a.toNat * 65536 + b.toNat * 256 + c.toNat) by omega, ← Nat.two_pow_add_eq_or_of_lt (by omega)]
  rw [k1, k2, k3]

def z8V : Array Value := #[.int .u32 0, .int .u32 0, .int .u32 0, .int .u32 0, .int .u32 0, .int .u32 0, .int .u32 0, .int .u32 0]
/-- What lies in memory in a block's rounds: the ring, the state, the table, the state that came in. -/
structure StM (w W : World) (gK : Nat) (ring : Nat → W32) (s st : S8) : Prop where
  r : Blk W (w.heap.size + 2) (arrV 16 ring) 333
  t : Blk W (gK + 1) (s8V s) 299
  k : Blk W gK kshV 321
  o : Blk W w.heap.size (s8V st) 299
  b : Below w.heap.size w W
  lt : w.heap.size + 2 < gK
  q : Blk W (w.heap.size + 1) z8V 299
theorem StM.drewN {w W : World} {gK : Nat} {ring : Nat → W32} {s st : S8} (h : StM w W gK ring s st) (n : Nat) : StM w (W.drewN n) gK ring s st :=
  ⟨h.r.drewN n, h.t.drewN n, h.k.drewN n, h.o.drewN n, bl_drewN h.b n, h.lt, h.q.drewN n⟩
theorem StM.ring {w W : World} {gK : Nat} {ring : Nat → W32} {s st : S8} (h : StM w W gK ring s st) (i : Nat) (x : W32) : StM w (W.setCell ⟨w.heap.size + 2, i, none⟩ (.int .u32 (iw x))) gK (upd ring i x) s st :=
  ⟨by have := h.r.set i (.int .u32 (iw x)); rw [arrV_set] at this; exact this, h.t.setO _ _ (by have := h.lt; dsimp only; omega), h.k.setO _ _ (by have := h.lt; dsimp only; omega), h.o.setO _ _ (by dsimp only; omega), bl_set h.b (by dsimp only; omega) _, h.lt, h.q.setO _ _ (by dsimp only; omega)⟩
theorem StM.to {w W : World} {gK : Nat} {ring ring' : Nat → W32} {s st : S8} (h : StM w W gK ring s st) (e : arrV 16 ring = arrV 16 ring') : StM w W gK ring' s st :=
  ⟨e ▸ h.r, h.t, h.k, h.o, h.b, h.lt, h.q⟩
theorem StM.st {w W : World} {gK : Nat} {ring : Nat → W32} {s st : S8} (h : StM w W gK ring s st) (s' : S8) (i : Nat) (v : Value) (e : (s8V s).setIfInBounds i v = s8V s') : StM w (W.setCell ⟨gK + 1, i, none⟩ v) gK ring s' st :=
  ⟨h.r.setO _ _ (by have := h.lt; dsimp only; omega), by have := h.t.set i v; rw [e] at this; exact this, h.k.setO _ _ (by dsimp only; omega), h.o.setO _ _ (by have := h.lt; dsimp only; omega), bl_set h.b (by have := h.lt; dsimp only; omega) _, h.lt, h.q.setO _ _ (by have := h.lt; dsimp only; omega)⟩
theorem StM.row {w W : World} {gK : Nat} {ring : Nat → W32} {s st : S8} (h : StM w W gK ring s st) (s' : S8) : StM w (W.setRow (gK + 1) (s8V s')) gK ring s' st :=
  ⟨h.r.rowO (by have := h.lt; omega), h.t.row, h.k.rowO (by omega), h.o.rowO (by have := h.lt; omega), bl_row h.b (by have := h.lt; omega) _, h.lt, h.q.rowO (by have := h.lt; omega)⟩
theorem StM.rc {w W : World} {gK : Nat} {ring : Nat → W32} {s st : S8} (h : StM w W gK ring s st) {j : Nat} (hj : j < 16) : W.cell? ⟨w.heap.size + 2, j, none⟩ = some (.int .u32 (iw (ring j))) := by rw [h.r.c, arrV_at _ _ hj]
theorem StM.sc {w W : World} {gK : Nat} {ring : Nat → W32} {s st : S8} (h : StM w W gK ring s st) : W.cell? ⟨gK + 1, 0, none⟩ = some (.int .u32 (iw s.a)) ∧ W.cell? ⟨gK + 1, 1, none⟩ = some (.int .u32 (iw s.b)) ∧ W.cell? ⟨gK + 1, 2, none⟩ = some (.int .u32 (iw s.c)) ∧ W.cell? ⟨gK + 1, 3, none⟩ = some (.int .u32 (iw s.d)) ∧
    W.cell? ⟨gK + 1, 4, none⟩ = some (.int .u32 (iw s.e)) ∧ W.cell? ⟨gK + 1, 5, none⟩ = some (.int .u32 (iw s.f)) ∧ W.cell? ⟨gK + 1, 6, none⟩ = some (.int .u32 (iw s.g)) ∧ W.cell? ⟨gK + 1, 7, none⟩ = some (.int .u32 (iw s.h)) :=
  ⟨h.t.c 0, h.t.c 1, h.t.c 2, h.t.c 3, h.t.c 4, h.t.c 5, h.t.c 6, h.t.c 7⟩

theorem roundW_eq {s : S8} {kk wk T1 T2 U2 : W32} (h1 : s.h + kk + wk + chW s.e s.f s.g = T1) (h2 : T1 + (rotI s.e (-6) ^^^ rotI s.e (-11) ^^^ rotI s.e (-25)) = T2)
    (h3 : maW s.a s.b s.c + (rotI s.a (-2) ^^^ rotI s.a (-13) ^^^ rotI s.a (-22)) = U2) : roundW s kk wk = ⟨T2 + U2, s.a, s.b, s.c, s.d + T2, s.e, s.f, s.g⟩ := by
  have e1 : tW s kk wk = T2 := by
    rw [← h2, ← h1]; unfold tW
    show s.h + bs1 s.e + chW s.e s.f s.g + kk + wk = s.h + kk + wk + chW s.e s.f s.g + bs1 s.e
    ac_rfl
  have e2 : uW s = U2 := by
    rw [← h3]; unfold uW
    show bs0 s.a + _ = _ + bs0 s.a
    exact BitVec.add_comm _ _
  unfold roundW; rw [e1, e2]
set_option maxRecDepth 100000 in
set_option maxHeartbeats 2000000 in
theorem digStep (st : S8) (b o : Nat) (f : Nat → UInt8) (w : World) (hr : RdB w b o 64 f) :
    Calls Try.prog 295 #[.agg (s8V st), .pointer (some ⟨b, o, none⟩)] w fun e w' => e = .returned (.agg (s8V (stepW st (mW f)))) ∧ Below w.heap.size w w' := by
  have hB0 := Below.refl w.heap.size w
  unfold s8V
  go_enter Try.func295, Try.ntmps295
  go_wp2
  have hz : #[Value.int IntKind.u32 0, Value.int IntKind.u32 0, Value.int IntKind.u32 0, Value.int IntKind.u32 0, Value.int IntKind.u32 0, Value.int IntKind.u32 0, Value.int IntKind.u32 0, Value.int IntKind.u32 0, Value.int IntKind.u32 0, Value.int IntKind.u32 0, Value.int IntKind.u32 0, Value.int IntKind.u32 0, Value.int IntKind.u32 0, Value.int IntKind.u32 0, Value.int IntKind.u32 0, Value.int IntKind.u32 0] = arrV 16 (fun j => if j < 0 then mW f j else 0) := rfl
  go_loopw [6, 16] (fun _ i W => ∃ k : Nat, i = .int .i64 k ∧ k ≤ 16 ∧ Blk W (w.heap.size + 2) (arrV 16 (fun j => if j < k then mW f j else 0)) 333 ∧ Blk W w.heap.size (s8V st) 299 ∧ Below w.heap.size w W ∧ Blk W (w.heap.size + 1) z8V 299) (fun _ i _ => 16 - (intOf i).toNat)
  case atStart => exact ⟨0, rfl, by omega, by rw [← hz]; exact Blk.new' _ _ (by simp), ((Blk.new _ _ _).alloc _).alloc _, ((hB0.alloc (Nat.le_refl _) _).alloc (by simp) _).alloc (by simp; omega) _, (Blk.new' z8V _ (by simp)).alloc _⟩
  case round =>
    obtain ⟨k, rfl, hk, bW, bS, hB, bQ⟩ := hrel
    by_cases hlt : k < 16
    · as_aux_lemma =>
      have hr' := hr.mono hB
      have c0 := hr'.2 (4 * k) (by omega)
      have c1 := hr'.2 (4 * k + 1) (by omega)
      have c2 := hr'.2 (4 * k + 2) (by omega)
      have c3 := hr'.2 (4 * k + 3) (by omega)
      have b0 := (f (4 * k)).toNat_lt
      have b1 := (f (4 * k + 1)).toNat_lt
      have b2 := (f (4 * k + 2)).toNat_lt
      have b3 := (f (4 * k + 3)).toNat_lt
      have hv := or4 (f (4 * k)) (f (4 * k + 1)) (f (4 * k + 2)) (f (4 * k + 3))
      have t1 := bW.c k
      rw [arrV_at _ _ hlt] at t1
      have t2 := bW.f k
      have hbs := hr'.1
      go_wp2
      (refine wp_region_drew_tail 39 (by kernel_rfl) (by kernel_rfl) ?_; simp only [List.take_succ_cons, List.take_zero, List.drop_succ_cons, List.drop_zero]; (repeat (first | go_big_quiet_step (fail) | quiet_step (fail))); refine wpQuiet_nil ?_; intro _ hw'; obtain ⟨nq, hw''⟩ := hw'; subst hw'')
      go_wp2
      go_roundw
      case rel =>
        refine ⟨k + 1, by go_num, by omega, ?_, ?_, by repeat first | exact hB | (refine bl_drewN ?_ _) | (refine bl_drew ?_) | (refine bl_grow ?_ (by first | omega | (simp; omega) | simp) _ _) | (refine bl_set ?_ (by first | omega | (simp; omega) | simp) _) | (refine bl_alloc ?_ (by first | omega | (simp; omega) | simp) _), (bQ.drewN nq).setO _ _ (by dsimp only; omega)⟩
        · have h := Blk.set (bW.drewN nq) k (.int .u32 (iw (mW f k)))
          rw [arrV_set] at h
          rw [arrV_ext 16 (fun j => if j < k + 1 then mW f j else 0) (upd (fun j => if j < k then mW f j else 0) k (mW f k)) (fun j _ => by
            unfold upd
            by_cases e : j = k
            · subst e; simp
            · simp only [e, if_false]; congr 1; simp; omega)]
          exact h
        · exact (bS.drewN nq).setO _ _ (by dsimp only; omega)
      case measure => simp [intOf]; omega
    · obtain rfl : k = 16 := by omega
      have bW1 : Blk wr (w.heap.size + 2) (arrV 16 (mW f)) 333 := by
        rw [arrV_ext 16 (mW f) (fun j => if j < 16 then mW f j else 0) (fun j h => by simp [h])]; exact bW
      clear bW
      go_wp2_with (first | (go_at_call 302; go_loud (refine (digCubes _).mono ?_; rintro e w2 ⟨rfl, hb2⟩; have hS2 := hb2.size; have hz2 : w.heap.size + 2 < w2.heap.size := (by have := bW1.lt; omega); have hz1 : w.heap.size + 1 < w2.heap.size := (by omega); have hz0 : w.heap.size < w2.heap.size := (by omega); have bS2 := bS.kp (Kp.of_below (P := fun _ => False) hb2) id; have s0 := bS2.c 0; have s1 := bS2.c 1; have s2 := bS2.c 2; have s3 := bS2.c 3; have s4 := bS2.c 4; have s5 := bS2.c 5; have s6 := bS2.c 6; have s7 := bS2.c 7; dsimp [s8V] at s0 s1 s2 s3 s4 s5 s6 s7)) | (refine wpList_store_rowTo (by rfl) 321 _ _ (by rfl) (by rfl) w2.heap.size kshV (by rfl) (by rfl) 321 z64 (heap_alloc_new _ _) (by kernel_rfl) (by rfl) kshV_one ?_; rw [World.setRow_alloc_new]))
      have bW2 := ((bW1.kp (Kp.of_below (P := fun _ => False) hb2) id).alloc (.cells kshV 321)).alloc (.cells (s8V st) 299)
      have bK2 := (Blk.new w2 kshV 321).alloc (.cells (s8V st) 299)
      have bS2a := (bS2.alloc (.cells kshV 321)).alloc (.cells (s8V st) 299)
      have bT2 := Blk.new' (w := w2.alloc (.cells kshV 321)) (g := w2.heap.size + 1) (s8V st) 299 (by simp)
      have hB2 : Below w.heap.size w ((w2.alloc (.cells kshV 321)).alloc (.cells (s8V st) 299)) := ((hB.trans (hb2.mono hB.size)).alloc (by omega) _).alloc (by simp; omega) _
      rw [ring0] at bW2
      have M2 : StM w _ w2.heap.size (ringF (mW f) 0) st st := ⟨bW2, bT2, bK2, bS2a, hB2, hz2, ((bQ.kp (Kp.of_below (P := fun _ => False) hb2) id).alloc _).alloc _⟩
      clear bW2 bT2 bK2 bS2a hB2 bS2 s0 s1 s2 s3 s4 s5 s6 s7 bW1 bS hB hS2 hz1 hz0
      have HZ := Lib.hid hz
      clear hz
      generalize w2.heap.size = gK at *
      go_loopw [61] (fun i W => ∃ k : Nat, i = .int .i64 k ∧ k ≤ 64 ∧ StM w W gK (ringF (mW f) k) (roundsW (mW f) st k) st) (fun i _ => 64 - (intOf i).toNat)
      case atStart => exact ⟨0, rfl, by omega, M2⟩
      case round =>
        obtain ⟨k, rfl, hk, M⟩ := hrel
        by_cases hlt : k < 64
        · as_aux_lemma =>
          have x1 := M.k.c k
          rw [kshV_at hlt] at x1
          generalize hm : mW f = m at *
          generalize hs : roundsW m st k = s at *
          have HS := Lib.hid hs
          have HM := Lib.hid hm
          clear hs hm
          by_cases h16 : 16 ≤ k
          case' pos =>
            go_wp2
            go_quiet (fail)
            generalize hw3 : World.drewN _ _ = w3
            have M3 : StM w w3 gK (ringF m k) s st := by rw [← hw3]; exact M.drewN _
            have HW3 := Lib.hid hw3
            clear hw3 x1
            have z1 := M3.rc (j := (k + 1) % 16) (by omega)
            have z14 := M3.rc (j := (k + 14) % 16) (by omega)
            have z0 := M3.rc (j := k % 16) (by omega)
            have f0 := M3.r.f (k % 16)
            generalize hx1 : ringF m k ((k + 1) % 16) = X1 at *
            generalize hx14 : ringF m k ((k + 14) % 16) = X14 at *
            generalize hx0 : ringF m k (k % 16) = X0 at *
            have HX1 := Lib.hid hx1
            have HX14 := Lib.hid hx14
            have HX0 := Lib.hid hx0
            clear hx1 hx14 hx0
            go_wp2
            go_quiet (fail)
            generalize hw4 : World.drewN _ _ = w4
            have M4 : StM w w4 gK (ringF m k) s st := by rw [← hw4]; exact M3.drewN _
            have HW4 := Lib.hid hw4
            clear hw4 z1 z14 z0 f0
            have z0 := M4.rc (j := k % 16) (by omega)
            have f0 := M4.r.f (k % 16)
            rw [HX0.out] at z0
            go_wp2
            have i1 := iw_xor (rotI X1 (-7)) (rotI X1 (-18))
            have i3 : bits .xor .u32 (iw (rotI X1 (-7) ^^^ rotI X1 (-18))) (iw X1 / 8) = iw (rotI X1 (-7) ^^^ rotI X1 (-18) ^^^ X1 >>> 3) := by rw [iw_shr3, iw_xor]
            have i4 := iw_add' X0 (rotI X1 (-7) ^^^ rotI X1 (-18) ^^^ X1 >>> 3)
            (refine wp_region_drew_tail 14 (by kernel_rfl) (by kernel_rfl) ?_; simp only [List.take_succ_cons, List.take_zero, List.drop_succ_cons, List.drop_zero]; (repeat (first | go_big_quiet_step (exact Calls.quiet_of_same (rotQ _ _ _ (by omega) (by omega))) | quiet_step (exact Calls.quiet_of_same (rotQ _ _ _ (by omega) (by omega))))); refine wpQuiet_nil ?_; intro _ hw'; obtain ⟨nq, hw''⟩ := hw'; subst hw'')
            go_wp2
            generalize hgw5 : World.setCell _ _ _ = w5
            have M5 : StM w w5 gK (upd (ringF m k) (k % 16) (X0 + (rotI X1 (-7) ^^^ rotI X1 (-18) ^^^ X1 >>> 3))) s st := by rw [← hgw5]; exact (M4.drewN _).ring _ _
            have HGw5 := Lib.hid hgw5
            clear hgw5
            clear i1 i3 i4
            have z5 := M5.rc (j := k % 16) (by omega)
            have z9 := M5.rc (j := (k + 9) % 16) (by omega)
            have f5 := M5.r.f (k % 16)
            have u5 : upd (ringF m k) (k % 16) (X0 + (rotI X1 (-7) ^^^ rotI X1 (-18) ^^^ X1 >>> 3)) (k % 16) = (X0 + (rotI X1 (-7) ^^^ rotI X1 (-18) ^^^ X1 >>> 3)) := if_pos rfl
            have u9 : upd (ringF m k) (k % 16) (X0 + (rotI X1 (-7) ^^^ rotI X1 (-18) ^^^ X1 >>> 3)) ((k + 9) % 16) = ringF m k ((k + 9) % 16) := if_neg (by omega)
            rw [u5] at z5
            rw [u9] at z9
            clear u5 u9 z0 f0
            generalize hx9 : ringF m k ((k + 9) % 16) = X9 at *
            generalize hy1 : (X0 + (rotI X1 (-7) ^^^ rotI X1 (-18) ^^^ X1 >>> 3)) = Y1 at *
            have HX9 := Lib.hid hx9
            have HY1 := Lib.hid hy1
            clear hx9 hy1
            have i1 := iw_xor (rotI X14 (-17)) (rotI X14 (-19))
            have i3 : bits .xor .u32 (iw (rotI X14 (-17) ^^^ rotI X14 (-19))) (iw X14 / 1024) = iw (rotI X14 (-17) ^^^ rotI X14 (-19) ^^^ X14 >>> 10) := by rw [iw_shr10, iw_xor]
            have i4 := iw_add3 Y1 X9 (rotI X14 (-17) ^^^ rotI X14 (-19) ^^^ X14 >>> 10)
            (refine wp_region_drew_tail 20 (by kernel_rfl) (by kernel_rfl) ?_; simp only [List.take_succ_cons, List.take_zero, List.drop_succ_cons, List.drop_zero]; (repeat (first | go_big_quiet_step (exact Calls.quiet_of_same (rotQ _ _ _ (by omega) (by omega))) | quiet_step (exact Calls.quiet_of_same (rotQ _ _ _ (by omega) (by omega))))); refine wpQuiet_nil ?_; intro _ hw'; obtain ⟨nq, hw''⟩ := hw'; subst hw'')
            go_wp2
            generalize hgw6 : World.setCell _ _ _ = w6
            have M6 : StM w w6 gK (upd (upd (ringF m k) (k % 16) Y1) (k % 16) (Y1 + (X9 + (rotI X14 (-17) ^^^ rotI X14 (-19) ^^^ X14 >>> 10)))) s st := by rw [← hgw6]; exact (M5.drewN _).ring _ _
            have HGw6 := Lib.hid hgw6
            clear hgw6
            have M7 : StM w w6 gK (ringF m (k + 1)) s st := by
              have e : (Y1 + (X9 + (rotI X14 (-17) ^^^ rotI X14 (-19) ^^^ X14 >>> 10))) = wAt m k := by
                have h1 : wAt m (k - 15) = X1 := by rw [← HX1.out]; unfold ringF; rw [ringT_hi h16 (by omega)]; congr 1
                have h14 : wAt m (k - 2) = X14 := by rw [← HX14.out]; unfold ringF; rw [ringT_hi h16 (by omega)]; congr 1
                have h0 : wAt m (k - 16) = X0 := by rw [← HX0.out]; unfold ringF; rw [show k % 16 = (k + 0) % 16 by omega, ringT_hi h16 (by omega)]; congr 1
                have h9 : wAt m (k - 7) = X9 := by rw [← HX9.out]; unfold ringF; rw [ringT_hi h16 (by omega)]; congr 1
                rw [wAt_hi m h16, h1, h14, h0, h9, ← HY1.out]
                show _ = X0 + sg0 X1 + X9 + sg1 X14
                unfold sg0 sg1 rotI
                exact (BitVec.add_assoc _ _ _).symm
              refine M6.to ((arrV_ext 16 _ _ fun j _ => ?_).trans (ring_hi m h16))
              rw [e]; unfold upd; split <;> rfl
            clear i1 i3 i4 M6 M5 M4 M3 z5 z9 f5
          case' neg =>
            go_wp2
            go_quiet (fail)
            generalize hw6 : World.drewN _ _ = w6
            have M7 : StM w w6 gK (ringF m (k + 1)) s st := by rw [← hw6, ring_lo m (by omega)]; exact M.drewN _
            have HW6 := Lib.hid hw6
            clear hw6 x1
          all_goals as_aux_lemma =>
            have zk := M7.rc (j := k % 16) (by omega)
            have hzk : ringF m (k + 1) (k % 16) = wAt m k := by unfold ringF; rw [ringT_next]
            rw [hzk] at zk
            clear hzk
            generalize hwk : wAt m k = Wk at *
            have HWk := Lib.hid hwk
            clear hwk
            obtain ⟨y0, y1, y2, y3, y4, y5, y6, y7⟩ := M7.sc
            have i1 := iw_and s.e s.f
            have i2 := iw_andNot s.g s.e
            have i3 : bits .or .u32 (iw (s.e &&& s.f)) (iw (s.g &&& ~~~s.e)) = iw (chW s.e s.f s.g) := by rw [iw_or, ch_or]
            have i4 := iw_add4 s.h (kAt k) Wk (chW s.e s.f s.g)
            try go_wp2
            go_quiet (fail)
            generalize hgw10 : World.drewN _ _ = w10
            have M10 : StM w w10 gK (ringF m (k + 1)) s st := by rw [← hgw10]; exact M7.drewN _
            have HGw10 := Lib.hid hgw10
            clear hgw10
            clear i1 i2 i3 i4 y0 y1 y2 y3 y4 y5 y6 y7 zk M7
            obtain ⟨y0, y1, y2, y3, y4, y5, y6, y7⟩ := M10.sc
            generalize ht1 : s.h + kAt k + Wk + chW s.e s.f s.g = T1 at *
            have HT1 := Lib.hid ht1
            clear ht1
            have i1 := iw_xor (rotI s.e (-6)) (rotI s.e (-11))
            have i2 := iw_xor (rotI s.e (-6) ^^^ rotI s.e (-11)) (rotI s.e (-25))
            have i3 := iw_add' T1 (rotI s.e (-6) ^^^ rotI s.e (-11) ^^^ rotI s.e (-25))
            go_wp2
            go_quiet (exact Calls.quiet_of_same (rotQ _ _ _ (by omega) (by omega)))
            generalize hgw11 : World.drewN _ _ = w11
            have M11 : StM w w11 gK (ringF m (k + 1)) s st := by rw [← hgw11]; exact M10.drewN _
            have HGw11 := Lib.hid hgw11
            clear hgw11
            clear i1 i2 i3 y0 y1 y2 y3 y4 y5 y6 y7 M10
            obtain ⟨y0, y1, y2, y3, y4, y5, y6, y7⟩ := M11.sc
            have i1 := iw_and s.a s.b
            have i2 := iw_and s.a s.c
            have i3 := iw_or (s.a &&& s.b) (s.a &&& s.c)
            have i4 := iw_and s.b s.c
            have i5 : bits .or .u32 (iw (s.a &&& s.b ||| s.a &&& s.c)) (iw (s.b &&& s.c)) = iw (maW s.a s.b s.c) := by rw [iw_or, ma_or]
            have j1 := iw_xor (rotI s.a (-2)) (rotI s.a (-13))
            have j2 := iw_xor (rotI s.a (-2) ^^^ rotI s.a (-13)) (rotI s.a (-22))
            have j3 := iw_add' (maW s.a s.b s.c) (rotI s.a (-2) ^^^ rotI s.a (-13) ^^^ rotI s.a (-22))
            go_wp2
            go_quiet (exact Calls.quiet_of_same (rotQ _ _ _ (by omega) (by omega)))
            generalize hgw12 : World.drewN _ _ = w12
            have M12 : StM w w12 gK (ringF m (k + 1)) s st := by rw [← hgw12]; exact M11.drewN _
            have HGw12 := Lib.hid hgw12
            clear hgw12
            clear i1 i2 i3 i4 i5 j1 j2 j3 y0 y1 y2 y3 y4 y5 y6 y7 M11
            generalize ht2 : T1 + (rotI s.e (-6) ^^^ rotI s.e (-11) ^^^ rotI s.e (-25)) = T2 at *
            generalize hu2 : maW s.a s.b s.c + (rotI s.a (-2) ^^^ rotI s.a (-13) ^^^ rotI s.a (-22)) = U2 at *
            have HT2 := Lib.hid ht2
            have HU2 := Lib.hid hu2
            clear ht2 hu2
            go_wp2
            (refine wp_region_drew_tail 2 (by kernel_rfl) (by kernel_rfl) ?_; simp only [List.take_succ_cons, List.take_zero, List.drop_succ_cons, List.drop_zero]; (repeat (first | go_big_quiet_step (fail) | quiet_step (fail))); refine wpQuiet_nil ?_; intro _ hw'; obtain ⟨nq, hw''⟩ := hw'; subst hw'')
            have M13 := (M12.drewN nq).row ⟨s.a, s.a, s.b, s.c, s.d, s.e, s.f, s.g⟩
            obtain ⟨y0, y1, y2, y3, y4, y5, y6, y7⟩ := M12.sc
            have hsrc : ∀ j v, ((s8V s).toList.take 7)[j]? = some v → (w12.drewN nq).cell? ((⟨gK + 1, 0, none⟩ : Addr).add j) = some v := by
              intro j v hv
              have hj : j < 7 := by have := (List.getElem?_eq_some_iff.1 hv).1; simpa [s8V] using this
              rw [add_mk, Nat.zero_add, (M12.drewN nq).t.c j]
              rw [List.getElem?_take, if_pos hj] at hv
              simpa using hv
            have HSRC := Lib.hid hsrc
            clear hsrc y0 y1 y2 y3 y4 y5 y6 y7
            refine wpList_copy_own (by rfl) (.tmp 177) (.tmp 178) 335 335 (by rfl) 39 Try.underlying335 (by kernel_rfl) (gK + 1) 1 7 7 ⟨gK + 1, 0, none⟩ 7 8 (by rfl) (by rfl) (s8V s) 299 (M12.drewN nq).t ((s8V s).toList.take 7) (by rfl) HSRC.out (by simp [s8V]) (by intro v hv; simp [s8V] at hv; rcases hv with rfl | rfl | rfl | rfl | rfl | rfl | rfl <;> rfl) ?_
            generalize hg13 : World.setRow _ _ _ = w13
            have M14 : StM w w13 gK (ringF m (k + 1)) ⟨s.a, s.a, s.b, s.c, s.d, s.e, s.f, s.g⟩ st := by rw [← hg13]; exact M13
            have HG13 := Lib.hid hg13
            clear hg13 M13 M12
            obtain ⟨y0, y1, y2, y3, y4, y5, y6, y7⟩ := M14.sc
            have f0 := M14.t.f 0
            have f4 := M14.t.f 4
            have i1 := iw_add' s.d T2
            have i2 := iw_add' T2 U2
            dsimp only at y0 y1 y2 y3 y4 y5 y6 y7
            go_wp2
            have e1 : roundsW m st (k + 1) = ⟨T2 + U2, s.a, s.b, s.c, s.d + T2, s.e, s.f, s.g⟩ := by
              show roundW (roundsW m st k) (kAt k) (wAt m k) = _
              rw [HS.out, HWk.out]
              exact roundW_eq HT1.out HT2.out HU2.out
            have HE1 := Lib.hid e1
            clear e1
            go_roundw
            case rel =>
              refine ⟨k + 1, by go_num, by omega, ?_⟩
              rw [HE1.out]
              exact (M14.st ⟨s.a, s.a, s.b, s.c, s.d + T2, s.e, s.f, s.g⟩ 4 _ rfl).st ⟨T2 + U2, s.a, s.b, s.c, s.d + T2, s.e, s.f, s.g⟩ 0 _ rfl
            case measure => simp [intOf]; omega
        · as_aux_lemma =>
          obtain rfl : k = 64 := by omega
          generalize hS : roundsW (mW f) st 64 = S at *
          have HS := Lib.hid hS
          clear hS
          have bT := M.t
          have bO := M.o
          have bQ9 := M.q
          rw [s8V_arr] at bT bO
          have hB := M.b
          have hgk := M.lt
          rw [arrV_ext 8 (s8f S) (fun j => if j < 0 then s8f S j + s8f st j else s8f S j) (fun j _ => by simp)] at bT
          go_wp2
          go_loopw [190] (fun i W => ∃ k : Nat, i = .int .i64 k ∧ k ≤ 8 ∧ Blk W (gK + 1) (arrV 8 (fun j => if j < k then s8f S j + s8f st j else s8f S j)) 299 ∧ Blk W w.heap.size (arrV 8 (s8f st)) 299 ∧ Below w.heap.size w W ∧ Blk W (w.heap.size + 1) z8V 299) (fun i _ => 8 - (intOf i).toNat)
          case atStart => exact ⟨0, rfl, by omega, bT, bO, hB, bQ9⟩
          case round =>
            obtain ⟨k, rfl, hk, cT, cO, hB1, cQ⟩ := hrel
            by_cases hlt : k < 8
            · as_aux_lemma =>
              have x1 := cT.c k
              have x2 := cO.c k
              have x3 := cT.f k
              rw [arrV_at _ _ hlt] at x1 x2
              simp only [Nat.lt_irrefl, if_false] at x1
              have i1 := iw_add' (s8f S k) (s8f st k)
              go_wp2
              (refine wp_region_drew_tail 8 (by kernel_rfl) (by kernel_rfl) ?_; simp only [List.take_succ_cons, List.take_zero, List.drop_succ_cons, List.drop_zero]; (repeat (first | go_big_quiet_step (fail) | quiet_step (fail))); refine wpQuiet_nil ?_; intro _ hw'; obtain ⟨nq, hw''⟩ := hw'; subst hw'')
              go_wp2
              go_roundw
              case rel =>
                refine ⟨k + 1, by go_num, by omega, ?_, (cO.drewN nq).setO _ _ (by dsimp only; omega), bl_set (bl_drewN hB1 _) (by dsimp only; omega) _, (cQ.drewN nq).setO _ _ (by dsimp only; omega)⟩
                have h := (cT.drewN nq).set k (.int .u32 (iw (s8f S k + s8f st k)))
                rw [arrV_set] at h
                rw [arrV_ext 8 (fun j => if j < k + 1 then s8f S j + s8f st j else s8f S j) (upd (fun j => if j < k then s8f S j + s8f st j else s8f S j) k (s8f S k + s8f st k)) (fun j _ => by
                  unfold upd
                  by_cases e : j = k
                  · subst e; simp
                  · simp only [e, if_false]; congr 1; simp; omega)]
                exact h
              case measure => simp [intOf]; omega
            · as_aux_lemma =>
              obtain rfl : k = 8 := by omega
              have e : arrV 8 (fun j => if j < 8 then s8f S j + s8f st j else s8f S j) = s8V (addW S st) := by
                rw [s8V_arr]
                refine arrV_ext 8 _ _ fun j hj => ?_
                rw [if_pos hj]
                match j, hj with
                | 0, _ => rfl
                | 1, _ => rfl
                | 2, _ => rfl
                | 3, _ => rfl
                | 4, _ => rfl
                | 5, _ => rfl
                | 6, _ => rfl
                | 7, _ => rfl
              rw [e] at cT
              clear e
              have y0 := cT.c 0
              have y1 := cT.c 1
              have y2 := cT.c 2
              have y3 := cT.c 3
              have y4 := cT.c 4
              have y5 := cT.c 5
              have y6 := cT.c 6
              have y7 := cT.c 7
              have e2 : stepW st (mW f) = addW S st := by unfold stepW; rw [HS.out]
              have HE2 := Lib.hid e2
              clear e2
              generalize hs9 : addW S st = S9 at *
              have HS9 := Lib.hid hs9
              clear hs9
              dsimp [s8V] at y0 y1 y2 y3 y4 y5 y6 y7
              go_wp2_with (refine wpList_store_rowTo (by rfl) 299 _ _ (by rfl) (by rfl) (w.heap.size + 1) (s8V S9) (by rfl) (by rfl) 299 z8V cQ (by kernel_rfl) (by rfl) (s8V_one S9) ?_)
              refine retRow (g := w.heap.size + 1) (t := 299) (8, 39) (by rfl) (by rfl) (by rfl) cQ.row (by kernel_rfl) (by kernel_rfl) ?_
              refine ⟨?_, bl_row hB1 (by omega) _⟩
              rw [HE2.out]; rfl
end Go.Proofs.Ytfdiedcleggfnaa
