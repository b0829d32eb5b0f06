/- More words on memory: an append onto a row of the call's own, in a loop. -/
import Derived.Test.YtfdiedcleggfnaaBase
import Derived.Lib.AppendStr
namespace Go.Proofs.Ytfdiedcleggfnaa
open Go.RowKit

/-- Behind an append onto a row of the call's own the new row is the call's own. -/
theorem own_grown {w0 W w1 : World} {o : Obj} {e : TypeId} {sz n n' c cap g1 m : Nat} {A : Option Addr} {cs cs' : List Value} (hv : Own W (fun k => w0.heap.size ≤ k) e sz (.slice A n c) n cs) (hS : w0.heap.size ≤ W.heap.size)
    (_hgrow : (W.alloc o).grownBy w1 (Value.ownBlock (.slice A n c))) (hat : Value.ownBlock (.slice A n c) = some g1 ∨ g1 = (W.alloc o).heap.size)
    (hown : w1.ownsRow 0 e sz (.slice (some ⟨g1, 0, none⟩) n' cap) m cs') : Own w1 (fun k => w0.heap.size ≤ k) e sz (.slice (some ⟨g1, 0, none⟩) n' cap) m cs' := by
  refine ⟨hown, fun k hk => ?_⟩
  have : g1 = k := by simpa [Value.ownBlock] using hk
  subst this
  rcases hat with h | h
  · exact hv.2 _ h
  · simp at h; omega
theorem below_grown {w0 W w1 : World} {o : Obj} {e : TypeId} {sz n c : Nat} {A : Option Addr} {cs : List Value} (hB : Below w0.heap.size w0 W) (hv : Own W (fun k => w0.heap.size ≤ k) e sz (.slice A n c) n cs)
    (hgrow : (W.alloc o).grownBy w1 (Value.ownBlock (.slice A n c))) : Below w0.heap.size w0 w1 :=
  (hB.alloc hB.size o).grown hgrow (by have := hB.size; simp; omega) (fun k hk => hv.2 k hk)

/-- A text's bytes appended: where the new row lies. -/
theorem run_append_str_at {P : Program} {w : World} (t u ty e : TypeId) (i : TypeInfo) (ht : P.underlying t = some (.slice e)) (hu : P.underlying u = some .string) (hi : P.info? e = some i) (hz : i.zero = some (.int .u8 0))
    (hsize : i.size = 1) (hby : i.bytes = 1) (v : Value) (n : Nat) (xs : List Value) (hown : w.ownsRow 0 e 1 v n xs) (s : ByteArray) (h63 : n + s.size ≤ maxLen) (hbytes : n + s.size ≤ 140737488355328) :
    ∃ v' w', (Builtin.append_ #[t, u] ty #[v, .string s]).run P w = .ok v' w' ∧ w'.ownsRow 0 e 1 v' (n + s.size) (xs ++ Lib.strCells s) ∧ w.grownBy w' v.ownBlock ∧ (v'.ownBlock = v.ownBlock ∨ v'.ownBlock = some w.heap.size) := by
  obtain ⟨v', w', hr, h1, h2, h3⟩ := Lib.run_append_own_string (P := P) w 0 t u ty e i ht hu hi hz hsize hby v n xs hown s h63 hbytes (Nat.zero_le _)
  refine ⟨v', w', hr, h1, h2, ?_⟩
  have hsmall : n + s.size ≤ 9223372036854775807 := by simp only [maxLen] at h63; omega
  have hxl : xs.length = n := by simpa using hown.1
  rcases hown.2 with ⟨rfl, rfl⟩ | ⟨g, cap, cur, rfl, hbg, hg, hnc, hcm, hcs, htake⟩
  · by_cases hm : s.size = 0
    · rw [h3.2 ⟨rfl, hm⟩]; exact .inl rfl
    · have hr2 := run_append_nil_string (P := P) w t u ty e i (.int .u8 0) ht hu hi hz s (by omega) (by omega) (by rw [hby]; omega)
      rw [hr2] at hr
      injection hr with e1 _
      rw [← e1]; exact .inr rfl
  · by_cases hroom : n + s.size ≤ cap
    · have hr2 := Lib.run_append_room_string (P := P) w t u ty e i ht hu hi hsize g n cap cur hg s hroom (by have h9 : cur.size = cap := (by simpa using hcs); omega)
      rw [hr2] at hr
      injection hr with e1 _
      rw [← e1]; exact .inl rfl
    · have holds : ∀ j u, xs[j]? = some u → w.cell? ((⟨g, 0, none⟩ : Addr).add j) = some u := hown.cells (g := g) rfl
      have hr2 := Lib.run_append_grow_string (P := P) w t u ty e i (.int .u8 0) ht hu hi hz ⟨g, 0, none⟩ n cap xs (by rw [hsize]; simpa using hxl) holds s (by omega) (by omega) (by rw [hby]; exact growslice_fits (by omega) (by omega))
      rw [hr2] at hr
      injection hr with e1 _
      rw [← e1]; exact .inr rfl
theorem wpList_append_str_at {P : Program} {w : World} {ops : Array Oper} {rest : List Oper} {o : Oper} {a : Act} {Q : Exit → Act → World → Prop} (hgd : o.guard = none) (sl x : Operand) (t u : TypeId)
    (ho : o.op = .call { callee := .builtin .append, args := #[sl, x], argTypes := #[t, u] })
    (e : TypeId) (i : TypeInfo) (ht : P.underlying t = some (.slice e)) (hu : P.underlying u = some .string) (hi : P.info? e = some i) (hz : i.zero = some (.int .u8 0))
    (hsize : i.size = 1) (hby : i.bytes = 1)
    (v : Value) (n : Nat) (xs : List Value) (hs : a.eval sl = v) (hown : w.ownsRow 0 e 1 v n xs) (s : ByteArray) (hx : a.eval x = .string s)
    (h63 : n + s.size ≤ maxLen) (hbytes : n + s.size ≤ 140737488355328)
    (h : ∀ v' w', w'.ownsRow 0 e 1 v' (n + s.size) (xs ++ Lib.strCells s) → w.grownBy w' v.ownBlock → (v'.ownBlock = v.ownBlock ∨ v'.ownBlock = some w.heap.size) → wpList P ops Q rest (a.put o.dst v') w') : wpList P ops Q (o :: rest) a w := by
  refine wpList_plain hgd fun K hK => ?_
  obtain ⟨v', w', hr, h2, h3, h4⟩ := run_append_str_at (P := P) t u o.type e i ht hu hi hz hsize hby v n xs hown s h63 hbytes
  unfold Oper.wp execOp
  simp only [ho, resolve, invoke, builtin, Sem.run_bind, Sem.run_pure, Result.andThen_ok, List.map_toArray, List.map_cons, List.map_nil, hs, hx, hr]
  exact hK _ _ (h v' w' h2 h3 h4)
theorem strCells_vals (s : ByteArray) : Lib.strCells s = vals s.data.toList := by
  unfold Lib.strCells vals; simp
end Go.Proofs.Ytfdiedcleggfnaa
