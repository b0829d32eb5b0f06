/- What an argument reads as: dots, siblings, states. -/
import Derived.Test.YtfdiedcleggfnaaLaw3
import Derived.WalkKit
import Derived.ProofKit
import Derived.OpenShut
import Derived.ShutString
import Derived.ChangeOld
import Derived.Below
import Derived.SizedLaws
import Derived.ChangeArms
import Derived.Deep.SlicePairs
import Derived.Lib.SmallJoins
namespace Go.Proofs.Ytfdiedcleggfnaa
open Go.RowKit Go.ChangeShapes Go.WideShapes

section
variable {H : Type} {enc : TypeId × Value → H} {W : World} {base : Nat} {sp : Nat → Bool} {held : Bool}
theorem addr_plain {a : Addr} {v : Value} (h : W.cell? a = some v) : ∃ b o, a = ⟨b, o, none⟩ ∧ b < W.heap.size := by
  obtain ⟨b, o, s⟩ := a
  cases s with
  | none => exact ⟨b, o, rfl, World.block_lt_of_cell? W _ h⟩
  | some s => unfold World.cell? at h; simp at h; split at h <;> simp at h

theorem lit_dot {x z : Int} (h0 : (Lit.int .u32 x).wf = true) (h1 : (Lit.int .u64 z).wf = true) : dotWf ⟨x, z⟩ := by
  have e1 : IntKind.u32.min = 0 := rfl
  have e2 : IntKind.u32.max = 4294967295 := by decide
  have e3 : IntKind.u64.min = 0 := rfl
  have e4 : IntKind.u64.max = 18446744073709551615 := by decide
  simp only [Lit.wf, Bool.and_eq_true, decide_eq_true_eq, e1, e2, e3, e4] at h0 h1
  exact ⟨h0.1, h0.2, h1.1, h1.2⟩

theorem open_dots {n : Nat} {v : Value} {y : DataW H × List MemPlace} (h : DataW.trod enc Try.prog W base sp held n 22 [v] = some y)
    (hw : ∀ k ∈ y.1.weights Try.prog 22, k ≤ reachBytes) : ∃ (A : Option Addr) (xs : List Dot) (c : Nat), v = .slice A xs.length c ∧ RdD W A xs ∧ xs.length * 16 ≤ reachBytes := by
  rcases Go.Deep.open_slice_pairs Try.underlying22 Try.underlying50 (by kernel_rfl) rfl rfl (by kernel_rfl) (by kernel_rfl) h with ⟨h1, _⟩ | ⟨a, len, cap, m, k, V0, V1, D0, D1, P0, P1, h1, hb, hl, hm, hmm, hy, hc⟩
  · have : v = .slice none 0 0 := by simpa using h1
    subst this
    exact ⟨none, [], 0, rfl, ⟨Rd.nil _ _ _, by simp⟩, by simp⟩
  · have hlm : len ≤ m := by rw [hmm]; split <;> omega
    have hv : v = .slice (some a) len cap := by simpa using h1
    subst hv
    have each : ∀ i, i < len → ∃ q : Dot, V0 i = .int .u32 q.a ∧ V1 i = .int .u64 q.c ∧ dotWf q := by
      intro i hi
      obtain ⟨-, -, g0, g1⟩ := hc i (by omega)
      obtain ⟨x, e0, -, w0⟩ := DataW.trod_int Try.underlying39 g0
      obtain ⟨z, e1, -, w1⟩ := DataW.trod_int Try.underlying48 g1
      exact ⟨⟨x, z⟩, by simpa using e0, by simpa using e1, lit_dot w0 w1⟩
    obtain ⟨q, hq⟩ := Go.Deep.choose_lt each
    refine ⟨some a, (List.range len).map q, cap, by simp, ⟨?_, ?_⟩, ?_⟩
    · intro k hk
      have hk' : k < len := by simpa using hk
      obtain ⟨b, o, rfl, hbl⟩ := addr_plain (by simpa [Addr.add] using (hc 0 (by omega)).1)
      refine ⟨b, o, rfl, hbl, fun i u hu => ?_⟩
      obtain ⟨c0, c1, -, -⟩ := hc k (by omega)
      rw [add_mk] at c0 c1
      rw [(hq k hk').1] at c0
      rw [(hq k hk').2.1] at c1
      have hx : (((List.range len).map q).map dotV).getD k [] = dotV (q k) := by simp [List.getD_eq_getElem?_getD, hk']
      rw [hx] at hu
      match i, hu with
      | 0, hu => simp [dotV] at hu; subst hu; exact c0
      | 1, hu => simp [dotV] at hu; subst hu; rw [← Nat.add_assoc] at c1; exact c1
      | i + 2, hu => simp [dotV] at hu
    · intro d hd
      obtain ⟨i, hi, rfl⟩ := List.mem_map.1 hd
      exact (hq i (by simpa using hi)).2.2
    · have := hw ((len + (m - len)) * Try.prog.bytesOf 50) (by rw [hy]; simp [DataW.weights, Try.underlying22])
      have hb16 : Try.prog.bytesOf 50 = 16 := by kernel_rfl
      rw [hb16] at this
      have h2 : len * 16 ≤ (len + (m - len)) * 16 := Nat.mul_le_mul_right _ (by omega)
      simpa using Nat.le_trans h2 this

set_option maxRecDepth 100000 in
/-- One sibling's four cells. -/
theorem open_sib {n : Nat} {cs : List Value} {y : DataW H × List MemPlace} (h : DataW.trod enc Try.prog W base sp held n 145 cs = some y) (hw : ∀ k ∈ y.1.weights Try.prog 145, k ≤ reachBytes) :
    ∃ q : Sib, cs = sibV q ∧ sibWf q := by
  obtain ⟨xs, k, -, hy, hcl, hxl, hf⟩ := DataW.trod_struct Try.underlying145 h
  have c4 : Try.prog.cellsOf 145 = 4 := by kernel_rfl
  have c50 : Try.prog.cellsOf 50 = 2 := by kernel_rfl
  have cb : Try.prog.cellsOf 4 = 1 := by kernel_rfl
  have cst : Try.prog.cellsOf 9 = 1 := by kernel_rfl
  have c32 : Try.prog.cellsOf 39 = 1 := by kernel_rfl
  have c64 : Try.prog.cellsOf 48 = 1 := by kernel_rfl
  rw [c4] at hcl
  have hxl3 : xs.length = 3 := hxl
  match cs, hcl with
  | [u0, u1, u2, u3], _ =>
    match xs, hxl3 with
    | [y0, y1, y2], _ =>
      have g0 := hf 0 _ rfl
      have g1 := hf 1 _ rfl
      have g2 := hf 2 _ rfl
      simp [c50, cb, cst] at g0 g1 g2
      obtain ⟨zs, k2, -, hy0, -, hzl, hz⟩ := DataW.trod_struct Try.underlying50 g0
      have hzl2 : zs.length = 2 := hzl
      match zs, hzl2 with
      | [z0, z1], _ =>
        have k0 := hz 0 _ rfl
        have k1 := hz 1 _ rfl
        simp [c32, c64] at k0 k1
        obtain ⟨a, e0, -, w0⟩ := DataW.trod_int Try.underlying39 k0
        obtain ⟨c, e1, -, w1⟩ := DataW.trod_int Try.underlying48 k1
        obtain ⟨b, e2, -⟩ := DataW.trod_bool Try.underlying4 g1
        obtain ⟨t, e3, hy2, -⟩ := DataW.trod_string Try.underlying9 g2
        simp at e0 e1 e2 e3
        subst e0 e1 e2 e3
        refine ⟨⟨⟨a, c⟩, b, t⟩, rfl, lit_dot w0 w1, ?_⟩
        have := hw t.data.toList.length (by rw [hy, hy2]; simp [DataW.weights, DataW.weightsEach, Try.underlying145])
        simpa [reachBytes] using this

theorem weights_all {P : Program} {e : TypeId} {d : DataW H} {ds : List (DataW H)} (hd : d ∈ ds) {k : Nat} (hk : k ∈ d.weights P e) : k ∈ DataW.weightsAll P e ds := by
  induction ds with
  | nil => simp at hd
  | cons x xs ih =>
    simp only [DataW.weightsAll, List.mem_append]
    rcases List.mem_cons.1 hd with rfl | hd
    · exact .inl hk
    · exact .inr (ih hd)
set_option maxRecDepth 100000 in
theorem open_sibs {n : Nat} {v : Value} {y : DataW H × List MemPlace} (h : DataW.trod enc Try.prog W base sp held n 23 [v] = some y)
    (hw : ∀ k ∈ y.1.weights Try.prog 23, k ≤ reachBytes) : ∃ (A : Option Addr) (xs : List Sib) (c : Nat), v = .slice A xs.length c ∧ RdS W A xs ∧ xs.length * 40 ≤ reachBytes := by
  rcases Go.Deep.open_slice Try.underlying23 h with ⟨h1, _⟩ | ⟨a, len, cap, m, k, D, Pl, h1, hb, hl, hm, hmm, hy, hc⟩
  · have : v = .slice none 0 0 := by simpa using h1
    subst this
    exact ⟨none, [], 0, rfl, ⟨Rd.nil _ _ _, by simp⟩, by simp⟩
  · have hlm : len ≤ m := by rw [hmm]; split <;> omega
    have hv : v = .slice (some a) len cap := by simpa using h1
    subst hv
    have c4 : Try.prog.cellsOf 145 = 4 := by kernel_rfl
    have each : ∀ i, i < len → ∃ q : Sib, W.cells? base (a.add (i * 4)) 4 = some (sibV q) ∧ sibWf q := by
      intro i hi
      obtain ⟨cs', g0, g1⟩ := hc i (by omega)
      rw [c4] at g0
      obtain ⟨q, rfl, hq⟩ := open_sib g1 (fun k hk => hw k (by
        rw [hy]
        simp only [DataW.weights, Try.underlying23]
        exact List.mem_cons_of_mem _ (List.mem_append_left _ (weights_all (List.mem_map.2 ⟨i, by simpa using hi, rfl⟩) hk))))
      exact ⟨q, g0, hq⟩
    obtain ⟨q, hq⟩ := Go.Deep.choose_lt each
    have hcell : ∀ i, i < len → ∀ j u, (sibV (q i))[j]? = some u → W.cell? ((a.add (i * 4)).add j) = some u := by
      intro i hi j u hu
      obtain ⟨_, hlen, hcell⟩ := World.cells?_some (hq i hi).1
      have hj : j < 4 := by have := (List.getElem?_eq_some_iff.1 hu).1; simpa [sibV] using this
      rw [hcell j hj]; exact hu
    refine ⟨some a, (List.range len).map q, cap, by simp, ⟨?_, ?_⟩, ?_⟩
    · intro k hk
      have hk' : k < len := by simpa using hk
      obtain ⟨b, o, rfl, hbl⟩ := addr_plain (by simpa [Addr.add] using hcell 0 (by omega) 0 _ rfl)
      refine ⟨b, o, rfl, hbl, fun i u hu => ?_⟩
      have hx : (((List.range len).map q).map sibV).getD k [] = sibV (q k) := by simp [List.getD_eq_getElem?_getD, hk']
      rw [hx] at hu
      have := hcell k hk' i u hu
      rwa [add_mk, add_mk] at this
    · intro d hd
      obtain ⟨i, hi, rfl⟩ := List.mem_map.1 hd
      exact (hq i (by simpa using hi)).2
    · have := hw ((len + (m - len)) * Try.prog.bytesOf 145) (by rw [hy]; simp [DataW.weights, Try.underlying23])
      have hb40 : Try.prog.bytesOf 145 = 40 := by kernel_rfl
      rw [hb40] at this
      have h2 : len * 40 ≤ (len + (m - len)) * 40 := Nat.mul_le_mul_right _ (by omega)
      simpa using Nat.le_trans h2 this

set_option maxRecDepth 100000 in
theorem open_state {r : Reach} {b0 : Nat} {v : Value} {d : DataW H} {p : List MemPlace} (hv : Value.okWide Try.prog W r b0 25 v) (h : DataW.Trod enc Try.prog W base sp held 25 v d p)
    (hw : ∀ k ∈ d.weights Try.prog 25, k ≤ reachBytes) :
    ∃ (A B : Option Addr) (st : St) (c e : Nat), v = .agg #[.slice A st.seen.length c, .slice B st.sibs.length e] ∧ RdD W A st.seen ∧ RdS W B st.sibs ∧ st.seen.length * 16 ≤ reachBytes ∧ st.sibs.length * 40 ≤ reachBytes := by
  obtain ⟨v0, v1, y0, y1, n, rfl, rfl, -, h0, h1⟩ := Go.Joins.open_agg2 Try.underlying25 (by kernel_rfl) (by kernel_rfl) hv h
  have e0 : ∀ k ∈ y0.1.weights Try.prog 22, k ≤ reachBytes := fun k hk => hw k (by
    simp only [DataW.weights, Try.underlying25]
    simp [DataW.weightsEach]; exact .inl hk)
  have e1 : ∀ k ∈ y1.1.weights Try.prog 23, k ≤ reachBytes := fun k hk => hw k (by
    simp only [DataW.weights, Try.underlying25]
    simp [DataW.weightsEach]; exact .inr hk)
  obtain ⟨A, xs, c, rfl, hA, hn⟩ := open_dots h0 e0
  obtain ⟨B, ys, e, rfl, hB, hm⟩ := open_sibs h1 e1
  exact ⟨A, B, ⟨xs, ys⟩, c, e, rfl, hA, hB, hn, hm⟩
end
end Go.Proofs.Ytfdiedcleggfnaa
