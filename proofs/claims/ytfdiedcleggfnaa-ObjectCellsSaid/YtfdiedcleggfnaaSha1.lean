/- The digest's small functions, walked: turns, the tables. -/
import Derived.Test.YtfdiedcleggfnaaSha0
import Derived.Great.BuildSlice
import Derived.Deep.WholeRow
import Derived.Deep.CutBlock
namespace Go.Proofs.Ytfdiedcleggfnaa
open Go.RowKit Go.Sort
attribute [local go_sem] iw_xor iw_and iw_or iw_andNot iw_not iw_add

theorem iw_rotr (x : W32) (n : Nat) (h : n < 32) : bits .or .u32 (iw x / 2 ^ n) (iw x * 2 ^ (32 - n) % 4294967296) = iw (x.rotateRight n) := by
  have := iw_shl x (32 - n)
  rw [IntKind.wrap_u32'] at this
  rw [iw_shr, this, iw_or, iw_rot x n h]
theorem iw_rotr' (x : W32) (n : Nat) (h : n < 32) : bits .or .u32 (iw x * 2 ^ (32 - n) % 4294967296) (iw x / 2 ^ n) = iw (x.rotateRight n) := by
  have := iw_shl x (32 - n)
  rw [IntKind.wrap_u32'] at this
  rw [iw_shr, this, iw_or, BitVec.or_comm, iw_rot x n h]

set_option maxRecDepth 100000 in
set_option maxHeartbeats 2000000 in
theorem refRight (x : W32) (n : Nat) (w : World) (h1 : 1 ≤ n) (h2 : n ≤ 31) :
    Calls Try.prog 294 #[.int .u32 (iw x), .int .i64 n] w fun e w' => e = .returned (.int .u32 (iw (x.rotateRight n))) ∧ ∃ k, w' = w.drewN k := by
  have hr := Lib.hid (iw_rotr x n (by omega))
  go_enter Try.func294, Try.ntmps294
  go_wp2
  go_quiet (fail)
  go_wp2
  go_ret
  exact ⟨ret_int hr.out, _, rfl⟩

theorem and31 (n : Nat) (h1 : 1 ≤ n) (h2 : n ≤ 31) : bits .and .u64 (IntKind.u64.wrap (-(n : Int))) 31 = ((32 - n : Nat) : Int) := by
  have : ∀ n : Fin 32, 1 ≤ n.val → bits .and .u64 (IntKind.u64.wrap (-(n.val : Int))) 31 = ((32 - n.val : Nat) : Int) := by decide +kernel
  exact this ⟨n, by omega⟩ h1
set_option maxRecDepth 100000 in
set_option maxHeartbeats 2000000 in
theorem bitsRot (x : W32) (n : Nat) (w : World) (h1 : 1 ≤ n) (h2 : n ≤ 31) :
    Calls Try.prog 303 #[.int .u32 (iw x), .int .i64 (-(n : Int))] w fun e w' => e = .returned (.int .u32 (iw (x.rotateRight n))) ∧ w = w' := by
  obtain ⟨m, hm⟩ : ∃ m, m = 32 - n := ⟨_, rfl⟩
  have ha := and31 n h1 h2
  rw [← hm] at ha
  have hr : Hid (bits .or .u32 (iw x * 2 ^ m % 4294967296) (iw x / 2 ^ n) = iw (x.rotateRight n)) := by rw [hm]; exact iw_rotr' x n (by omega)
  have hm1 : (1 : Int) ≤ m := by omega
  have hm2 : (m : Int) ≤ 31 := by omega
  have hn : Hid (n = 32 - m) := by unfold Hid; omega
  clear hm
  go_enter Try.func303, Try.ntmps303
  go_wp2
  go_ret
  refine ⟨ret_int ?_, rfl⟩
  have e1 := hr.out
  rw [hn.out] at e1
  rw [e1, ← hn.out]

/-- Of a block of which the result is read whole. -/
theorem retRow {fn : Func} {R : Ending → World → Prop} {a : Act} {W : World} {p : Tmp} {ty t : TypeId} {g : Nat} {cs : Array Value} (d : Nat × TypeId) (hf : fn.results = #[ResultVar.cell p ty])
    (hp : a.tmps.getD p undef = .pointer (some ⟨g, 0, none⟩)) (hd : a.defers = []) (hb : Blk W g cs t)
    (hu : Try.prog.underlying ty = some (.array d.1 d.2)) (hi : (Try.prog.info? ty).map (·.size) = some cs.size)
    (hR : R (.returned (.agg cs)) W) : bodyPost Try.prog fn R .ret a W :=
  bodyPost_ret (results_cell_row hf a.tmps W g t cs (0, 0) (.array d.1 d.2) hp hb hu rfl hi) hd hR

def kshV : Array Value := (ksh.map fun x => Value.int .u32 (iw x)).toArray
theorem kshV_ints : kshV = ((ksh.map iw).map (Value.int .u32)).toArray := by unfold kshV; rw [List.map_map]; rfl
theorem kshV_one : kshV.all (·.oneCell') = true := by unfold kshV; simp [Value.oneCell']
theorem kshV_size : kshV.size = 64 := rfl
def z64 : Array Value := Array.replicate 64 (.int .u32 0)
set_option maxRecDepth 100000 in
set_option maxHeartbeats 2000000 in
theorem refCubes (w : World) : Calls Try.prog 292 #[] w fun e w' => e = .returned (.agg kshV) ∧ Below w.heap.size w w' := by
  go_enter Try.func292, Try.ntmps292
  go_upto_region 1 with (fail)
  go_wp2_with (first | (refine wpList_buildFlatArrTo (by rfl) 321 39 64 _ (by rfl) .u32 (ksh.map iw) (some 1) (by rfl) (by kernel_rfl) (by kernel_rfl) (by kernel_rfl) (by kernel_rfl) ?_; rw [← kshV_ints]) | (refine wpList_store_rowTo (by rfl) 321 _ _ (by rfl) (by rfl) w.heap.size kshV (by rfl) (by rfl) 321 z64 (heap_alloc_new _ _) (by kernel_rfl) (by rfl) kshV_one ?_; rw [World.setRow_alloc_new]))
  exact retRow (g := w.heap.size) (t := 321) (64, 39) rfl rfl rfl (Blk.new _ _ _) (by kernel_rfl) (by kernel_rfl) ⟨rfl, (Below.refl _ _).alloc (Nat.le_refl _) _⟩
set_option maxRecDepth 100000 in
set_option maxHeartbeats 2000000 in
theorem digCubes (w : World) : Calls Try.prog 302 #[] w fun e w' => e = .returned (.agg kshV) ∧ Below w.heap.size w w' := by
  go_enter Try.func302, Try.ntmps302
  go_upto_region 1 with (fail)
  go_wp2_with (first | (refine wpList_buildFlatArrTo (by rfl) 321 39 64 _ (by rfl) .u32 (ksh.map iw) (some 1) (by rfl) (by kernel_rfl) (by kernel_rfl) (by kernel_rfl) (by kernel_rfl) ?_; rw [← kshV_ints]) | (refine wpList_store_rowTo (by rfl) 321 _ _ (by rfl) (by rfl) w.heap.size kshV (by rfl) (by rfl) 321 z64 (heap_alloc_new _ _) (by kernel_rfl) (by rfl) kshV_one ?_; rw [World.setRow_alloc_new]))
  exact retRow (g := w.heap.size) (t := 321) (64, 39) rfl rfl rfl (Blk.new _ _ _) (by kernel_rfl) (by kernel_rfl) ⟨rfl, (Below.refl _ _).alloc (Nat.le_refl _) _⟩

/-- n words in a row. -/
def arrV (n : Nat) (f : Nat → W32) : Array Value := ((List.range n).map fun j => Value.int .u32 (iw (f j))).toArray
theorem arrV_size (n : Nat) (f : Nat → W32) : (arrV n f).size = n := by simp [arrV]
theorem arrV_at (n : Nat) (f : Nat → W32) {j : Nat} (h : j < n) : (arrV n f)[j]? = some (.int .u32 (iw (f j))) := by
  unfold arrV; simp [h]
theorem arrV_one (n : Nat) (f : Nat → W32) : (arrV n f).all (·.oneCell') = true := by unfold arrV; simp [Value.oneCell']
theorem arrV_ext (n : Nat) (f g : Nat → W32) (h : ∀ j, j < n → f j = g j) : arrV n f = arrV n g := by
  unfold arrV; congr 1; apply List.map_congr_left; intro j hj; rw [h j (by simpa using hj)]
def upd (f : Nat → W32) (k : Nat) (x : W32) : Nat → W32 := fun j => if j = k then x else f j
theorem arrV_set (n : Nat) (f : Nat → W32) (k : Nat) (x : W32) : (arrV n f).setIfInBounds k (.int .u32 (iw x)) = arrV n (upd f k x) := by
  apply Array.ext_getElem?
  intro i
  rw [Array.getElem?_setIfInBounds]
  by_cases hi : i < n
  · rw [arrV_at n _ hi, arrV_at n _ hi, arrV_size]
    unfold upd
    by_cases e : k = i
    · subst e; rw [if_pos rfl, if_pos rfl, if_pos hi]
    · rw [if_neg e, if_neg (fun h => e h.symm)]
  · have h1 : (arrV n f)[i]? = none := Array.getElem?_eq_none (by rw [arrV_size]; omega)
    have h2 : (arrV n (upd f k x))[i]? = none := Array.getElem?_eq_none (by rw [arrV_size]; omega)
    rw [h1, h2]
    by_cases e : k = i
    · subst e; rw [if_pos rfl, if_neg (by rw [arrV_size]; exact hi)]
    · rw [if_neg e]
def s8f (s : S8) (j : Nat) : W32 := s.l.getD j 0
def s8V (s : S8) : Array Value := #[.int .u32 (iw s.a), .int .u32 (iw s.b), .int .u32 (iw s.c), .int .u32 (iw s.d), .int .u32 (iw s.e), .int .u32 (iw s.f), .int .u32 (iw s.g), .int .u32 (iw s.h)]
theorem s8V_arr (s : S8) : s8V s = arrV 8 (s8f s) := rfl
theorem s8V_one (s : S8) : (s8V s).all (·.oneCell') = true := by rw [s8V_arr]; exact arrV_one _ _
set_option maxRecDepth 100000 in
set_option maxHeartbeats 2000000 in
theorem refStart (w : World) : Calls Try.prog 265 #[] w fun e w' => e = .returned (.agg (s8V hsh)) ∧ Below w.heap.size w w' := by
  go_enter Try.func265, Try.ntmps265
  go_wp2
  exact retRow (g := w.heap.size) (t := 299) (8, 39) rfl rfl rfl (Blk.new _ _ _) (by kernel_rfl) (by kernel_rfl) ⟨rfl, (Below.refl _ _).alloc (Nat.le_refl _) _⟩
set_option maxRecDepth 100000 in
set_option maxHeartbeats 2000000 in
theorem digStart (w : World) : Calls Try.prog 267 #[] w fun e w' => e = .returned (.agg (s8V hsh)) ∧ Below w.heap.size w w' := by
  go_enter Try.func267, Try.ntmps267
  go_wp2
  exact retRow (g := w.heap.size) (t := 299) (8, 39) rfl rfl rfl (Blk.new _ _ _) (by kernel_rfl) (by kernel_rfl) ⟨rfl, (Below.refl _ _).alloc (Nat.le_refl _) _⟩
end Go.Proofs.Ytfdiedcleggfnaa
