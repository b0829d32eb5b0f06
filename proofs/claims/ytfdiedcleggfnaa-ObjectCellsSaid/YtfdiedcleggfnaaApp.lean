/- An append of a whole slice, whatever slice it is; a state in memory of its own. -/
import Derived.Test.YtfdiedcleggfnaaParse
import Derived.Maps.AppendAt
import Derived.Deep.RegionHeld3
namespace Go.Proofs.Ytfdiedcleggfnaa
open Go.RowKit Go.Sort

theorem flat_back {α : Type} (sz : Nat) (h0 : 0 < sz) (vs : List (List α)) (hs : ∀ x ∈ vs, x.length = sz) (j : Nat) (v : α) (hv : vs.flatten[j]? = some v) : j / sz < vs.length ∧ (vs.getD (j / sz) [])[j % sz]? = some v := by
  induction vs generalizing j with
  | nil => simp at hv
  | cons x xs ih =>
    have hxl : x.length = sz := hs x (by simp)
    simp only [List.flatten_cons] at hv
    by_cases hj : j < sz
    · rw [List.getElem?_append_left (by omega)] at hv
      rw [Nat.div_eq_of_lt hj, Nat.mod_eq_of_lt hj]
      exact ⟨by simp, by simpa using hv⟩
    · rw [List.getElem?_append_right (by omega), hxl] at hv
      obtain ⟨h1, h2⟩ := ih (fun y hy => hs y (by simp [hy])) _ hv
      have e1 : j / sz = (j - sz) / sz + 1 := Nat.div_eq_sub_div h0 (by omega)
      have e2 : j % sz = (j - sz) % sz := Nat.mod_eq_sub_mod (by omega)
      rw [e1, e2]
      exact ⟨by simpa using h1, by simpa using h2⟩
theorem Rd.flat {w : World} {A : Option Addr} {sz : Nat} {vs : List (List Value)} (h : Rd w A sz vs) (h0 : 0 < sz) (hs : ∀ x ∈ vs, x.length = sz) (b o : Nat) (hA : A = some ⟨b, o, none⟩) (j : Nat) (v : Value) (hv : vs.flatten[j]? = some v) :
    w.cell? ⟨b, o + j, none⟩ = some v := by
  obtain ⟨h1, h2⟩ := flat_back sz h0 vs hs j v hv
  obtain ⟨b', o', e, _, hc⟩ := h _ h1
  rw [hA] at e; cases e
  have := hc _ _ h2
  rwa [show o + j / sz * sz + j % sz = o + j by have := Nat.div_add_mod j sz; rw [Nat.mul_comm] at this; omega] at this
theorem flat_length {α : Type} (sz : Nat) (vs : List (List α)) (hs : ∀ x ∈ vs, x.length = sz) : vs.flatten.length = vs.length * sz := by
  induction vs with
  | nil => simp
  | cons x xs ih => simp only [List.flatten_cons, List.length_append, List.length_cons, Nat.add_mul, ih (fun y hy => hs y (by simp [hy])), hs x (by simp)]; omega

section
variable {P : Program}
theorem run_app (w : World) (t ty e : TypeId) (i : TypeInfo) (z : Value) (size bytes : Nat) (ht : P.underlying t = some (.slice e)) (hi : P.info? e = some i) (hz : i.zero = some z)
    (hsize : i.size = size) (hby : i.bytes = bytes) (hzs : z.cells.size = size) (hsz : 0 < size)
    (v : Value) (n : Nat) (xs : List Value) (hown : w.ownsRow 0 e size v n xs) (A : Option Addr) (m c : Nat) (vs : List (List Value)) (hr : Rd w A size vs) (hm : vs.length = m) (hvl : ∀ x ∈ vs, x.length = size)
    (h1 : ∀ u ∈ vs.flatten, u.oneCell' = true) (h63 : n + m ≤ maxLen) (hbytes : (n + m) * bytes ≤ 140737488355328) :
    ∃ v' w', (Builtin.append_ #[t, t] ty #[v, .slice A m c]).run P w = .ok v' w' ∧ w'.ownsRow 0 e size v' (n + m) (xs ++ vs.flatten) ∧ w.grownBy w' v.ownBlock ∧ (v'.ownBlock = v.ownBlock ∨ v'.ownBlock = some w.heap.size) := by
  have hfl := flat_length size vs hvl
  rcases A with _ | ad
  · have hm0 : vs = [] := by
      cases vs with
      | nil => rfl
      | cons x xs => obtain ⟨_, _, e, _⟩ := hr 0 (by simp); cases e
    subst hm0
    have hm1 : m = 0 := by simpa using hm.symm
    subst hm1
    refine ⟨v, w, ?_, by simpa using hown, World.grownBy.refl w _, .inl rfl⟩
    rcases hown.2 with ⟨rfl, rfl⟩ | ⟨g, cap, cur, rfl, _, _, hnc, _⟩
    · simp [Builtin.append_, run_underlying ht, sizeOf, typeInfo, hi, Builtin.lenOf, Builtin.firstCells]
    · simp [Builtin.append_, run_underlying ht, sizeOf, typeInfo, hi, Builtin.lenOf, Builtin.firstCells, hnc, storeCells]
  · have hcells : ∀ j u, vs.flatten[j]? = some u → w.cell? (ad.add j) = some u := by
      intro j u hu
      obtain ⟨h2, h3⟩ := flat_back size hsz vs hvl j u hu
      obtain ⟨b, o, e, _, _⟩ := hr _ h2
      cases e
      rw [add_mk]
      exact hr.flat hsz hvl b o rfl j u hu
    obtain ⟨v', w', hrun, h2, h3, _, h5⟩ := run_append_own_at (P := P) w 0 t ty e i z size bytes ht hi hz hsize hby hzs hsz v n xs hown ad m c vs.flatten (by rw [hfl, hm]) hcells h1 h63 hbytes (Nat.zero_le _)
    exact ⟨v', w', hrun, h2, h3, h5⟩
theorem step_app {ops : Array Oper} {o : Oper} {a : Act} {K : Act → World → Prop} {Q : Exit → Act → World → Prop} {E : Prop} {w : World} (hgd : o.guard = none) (s x : Operand) (t : TypeId)
    (ho : o.op = .call { callee := .builtin .append, args := #[s, x], argTypes := #[t, t] })
    (e : TypeId) (i : TypeInfo) (z : Value) (size bytes : Nat) (ht : P.underlying t = some (.slice e)) (hi : P.info? e = some i) (hz : i.zero = some z)
    (hsize : i.size = size) (hby : i.bytes = bytes) (hzs : z.cells.size = size) (hsz : 0 < size)
    (v : Value) (n : Nat) (xs : List Value) (hs : a.eval s = v) (hown : w.ownsRow 0 e size v n xs) (A : Option Addr) (m c : Nat) (vs : List (List Value)) (hx : a.eval x = .slice A m c) (hr : Rd w A size vs) (hm : vs.length = m)
    (hvl : ∀ x ∈ vs, x.length = size) (h1 : ∀ u ∈ vs.flatten, u.oneCell' = true) (h63 : n + m ≤ maxLen) (hbytes : (n + m) * bytes ≤ 140737488355328)
    (h : ∀ v' w', w'.ownsRow 0 e size v' (n + m) (xs ++ vs.flatten) → w.grownBy w' v.ownBlock → (v'.ownBlock = v.ownBlock ∨ v'.ownBlock = some w.heap.size) → K (a.put o.dst v') w') :
    if Region.wanted o (yielded ops a.tmps) = true then Oper.wp P o a w K Q else E := by
  have hw : Region.wanted o (yielded ops a.tmps) = true := by simp [Region.wanted, hgd]
  rw [if_pos hw]
  obtain ⟨v', w', hrun, h2, h3, h4⟩ := run_app (P := P) w t o.type e i z size bytes ht hi hz hsize hby hzs hsz v n xs hown A m c vs hr hm hvl h1 h63 hbytes
  unfold Oper.wp execOp
  simp only [ho, resolve, invoke, builtin, Sem.run_bind, Sem.run_pure, Result.andThen_ok, List.map_toArray, List.map_cons, List.map_nil, hs, hx, hrun]
  exact h v' w' h2 h3 h4
end


theorem own_form {W : World} {e : TypeId} {sz n : Nat} {v : Value} {cs : List Value} (h : W.ownsRow 0 e sz v n cs) : ∃ A c, v = .slice A n c := by
  rcases h.2 with ⟨rfl, rfl⟩ | ⟨g, cap, cur, rfl, _⟩
  · exact ⟨_, _, rfl⟩
  · exact ⟨_, _, rfl⟩
theorem cell_setO {W : World} {p q : Addr} {v x : Value} (hc : W.cell? q = some x) (hne : q.block ≠ p.block) : (W.setCell p v).cell? q = some x :=
  (World.cell?_of_block (Below.heap_setCell W p v q.block hne)).trans hc
theorem heap_new2 (w : World) (o1 o2 : Obj) : ((w.alloc o1).alloc o2).heap[w.heap.size + 1]? = some o2 := by
  have h := heap_alloc_new (w.alloc o1) o2
  rwa [World.size_alloc] at h
theorem heap_old2 (w : World) (o1 o2 : Obj) : ((w.alloc o1).alloc o2).heap[w.heap.size]? = some o1 :=
  (((Below.refl _ _).alloc (Nat.le_refl _) o2).block _ (by simp)).trans (heap_alloc_new w o1)
theorem own_of {W W1 : World} {e : TypeId} {sz n B g x y : Nat} {v : Value} {cs : List Value} (h : W1.ownsRow 0 e sz v n cs)
    (hat : v.ownBlock = (Value.slice (some ⟨g, 0, none⟩) x y).ownBlock ∨ v.ownBlock = some W.heap.size) (hg : B ≤ g) (hW : B ≤ W.heap.size) : Own W1 (fun k => B ≤ k) e sz v n cs := by
  refine ⟨h, fun k hk => ?_⟩
  rcases hat with e | e
  · rw [e] at hk; simp [Value.ownBlock] at hk; omega
  · rw [e] at hk; simp at hk; omega
theorem own_other {W W' : World} {P : Nat → Prop} {e e' : TypeId} {sz n g x y : Nat} {v : Value} {cs : List Value} (h : Own W P e sz v n cs) (hg : W.grownBy W' (Value.slice (some ⟨g, 0, none⟩) x y).ownBlock)
    (hE : W.heap[g]? = some (.cells #[] e' (0, 0))) (hne : e ≠ e') : Own W' P e sz v n cs := by
  refine ⟨⟨h.1.1, ?_⟩, h.2⟩
  rcases h.1.2 with h1 | ⟨k, cap, cur, rfl, hb, hh, r⟩
  · exact .inl h1
  · refine .inr ⟨k, cap, cur, rfl, hb, (hg.block k (lt_of_heap hh) ?_).trans hh, r⟩
    intro e1
    have : g = k := by simp [Value.ownBlock] at e1; omega
    subst this
    rw [hE] at hh
    injection hh with hh; injection hh with _ h3
    exact hne h3.symm
theorem own_empty {W : World} {g : Nat} {e : TypeId} {sz : Nat} (h : W.heap[g]? = some (.cells #[] e (0, 0))) : W.ownsRow 0 e sz (.slice (some ⟨g, 0, none⟩) 0 0) 0 [] :=
  ⟨by simp, .inr ⟨g, 0, #[], rfl, Nat.zero_le _, h, Nat.zero_le _, Nat.zero_le _, by simp, by simp⟩⟩

/-- A state in memory of its own. -/
def TwinPost (st : St) (w : World) (e : Ending) (w' : World) : Prop :=
  ∃ (A B : Option Addr) (c d : Nat), e = .returned (.agg #[.slice A st.seen.length c, .slice B st.sibs.length d]) ∧
    Own w' (fun k => w.heap.size ≤ k) 50 2 (.slice A st.seen.length c) st.seen.length ((st.seen.map dotV).flatten) ∧
    Own w' (fun k => w.heap.size ≤ k) 145 4 (.slice B st.sibs.length d) st.sibs.length ((st.sibs.map sibV).flatten) ∧ Below w.heap.size w w'

set_option maxRecDepth 100000 in
set_option maxHeartbeats 2000000 in
theorem refTwin (A B : Option Addr) (c d : Nat) (st : St) (w : World) (hr : RdD w A st.seen) (hs : RdS w B st.sibs) (hn : st.seen.length ≤ 8796093021952) (hm : st.sibs.length ≤ 3518437208780) :
    Calls Try.prog 22 #[.agg #[.slice A st.seen.length c, .slice B st.sibs.length d]] w (TwinPost st w) := by
  obtain ⟨i0, hi, hz0, hz1, hz2⟩ := info_parts infoDot
  obtain ⟨i1, hi1, hy0, hy1, hy2⟩ := info_parts infoSib
  have hB0 := Below.refl w.heap.size w
  have hd1 : ∀ x ∈ st.seen.map dotV, x.length = 2 := by intro x hx; obtain ⟨d, _, rfl⟩ := List.mem_map.1 hx; rfl
  have hs1 : ∀ x ∈ st.sibs.map sibV, x.length = 4 := by intro x hx; obtain ⟨d, _, rfl⟩ := List.mem_map.1 hx; rfl
  have hd2 : ∀ u ∈ (st.seen.map dotV).flatten, u.oneCell' = true := by
    intro u hu; obtain ⟨l, hl, hu⟩ := List.mem_flatten.1 hu; obtain ⟨d, _, rfl⟩ := List.mem_map.1 hl; simp [dotV] at hu; rcases hu with rfl | rfl <;> rfl
  have hs2 : ∀ u ∈ (st.sibs.map sibV).flatten, u.oneCell' = true := by
    intro u hu; obtain ⟨l, hl, hu⟩ := List.mem_flatten.1 hu; obtain ⟨d, _, rfl⟩ := List.mem_map.1 hl; simp [sibV] at hu; rcases hu with rfl | rfl | rfl | rfl <;> rfl
  have HD1 := Lib.hid hd1
  have HS1 := Lib.hid hs1
  have HD2 := Lib.hid hd2
  have HS2 := Lib.hid hs2
  clear hd1 hs1 hd2 hs2
  go_enter Try.func22, Try.ntmps22
  go_wp2
  have hsz : ((w.alloc (Obj.cells #[Value.slice A st.seen.length c, Value.slice B st.sibs.length d] 25)).alloc (Obj.cells #[Value.slice none 0 0, Value.slice none 0 0] 25)).heap.size = w.heap.size + 2 := by simp
  have hB2 : Below w.heap.size w ((w.alloc (Obj.cells #[Value.slice A st.seen.length c, Value.slice B st.sibs.length d] 25)).alloc (Obj.cells #[Value.slice none 0 0, Value.slice none 0 0] 25)) := (hB0.alloc (Nat.le_refl _) _).alloc (by simp) _
  have b2 := (Blk.new w #[Value.slice A st.seen.length c, Value.slice B st.sibs.length d] 25).alloc (Obj.cells #[Value.slice none 0 0, Value.slice none 0 0] 25)
  have r2 := Blk.new (w.alloc (Obj.cells #[Value.slice A st.seen.length c, Value.slice B st.sibs.length d] 25)) #[.slice none 0 0, .slice none 0 0] 25
  rw [World.size_alloc] at r2
  generalize (w.alloc (Obj.cells #[Value.slice A st.seen.length c, Value.slice B st.sibs.length d] 25)).alloc (Obj.cells #[Value.slice none 0 0, Value.slice none 0 0] 25) = w2 at *
  have e0 := b2.c 0
  have e1 := b2.c 1
  dsimp at e0 e1
  have HNR : Hid (¬ (w2.heap.size ≤ w.heap.size + 1)) := by unfold Hid; omega
  have HSZ := Lib.hid hsz
  clear hsz
  have HK : Hid (∀ w', Below w2.heap.size w2 w' → (w'.cell? ⟨w.heap.size, 0, none⟩ = some (.slice A st.seen.length c) ∧ w'.cell? ⟨w.heap.size, 1, none⟩ = some (.slice B st.sibs.length d))) :=
    fun w' h => ⟨below_cell h e0, below_cell h e1⟩
  have HR : Hid (∀ w', Below w2.heap.size w2 w' → RdD w' A st.seen ∧ RdS w' B st.sibs) := fun w' h => ⟨(hr.mono hB2).mono h, (hs.mono hB2).mono h⟩
  have hB3 := Below.refl w2.heap.size w2
  go_region_held3 (fun w' => w'.cell? ⟨w.heap.size, 0, none⟩ = some (.slice A st.seen.length c) ∧ w'.cell? ⟨w.heap.size, 1, none⟩ = some (.slice B st.sibs.length d))
    (first | exact HK.out _ (by first | exact hb7 | exact hb3 | exact bl_drew hB3 | exact bl_alloc hB3 (Nat.le_refl _) _ | exact bl_alloc (bl_drew hB3) (Nat.le_refl _) _ | exact bl_drew (bl_alloc hB3 (Nat.le_refl _) _) | exact bl_drew (bl_alloc (bl_alloc hB3 (Nat.le_refl _) _) (by simp) _) | exact bl_alloc (bl_drew (bl_alloc hB3 (Nat.le_refl _) _)) (by simp) _ | exact bl_alloc (bl_alloc hB3 (Nat.le_refl _) _) (by simp) _ | exact bl_alloc hb3 hb3.size _ | exact bl_alloc hb7 hb7.size _ | exact bl_drew (bl_alloc hb3 hb3.size _) | exact bl_drew (bl_alloc hb7 hb7.size _)) | exact ⟨cell_setO (cell_setO (‹_ ∧ _›).1 (by simp)) (by simp), cell_setO (cell_setO (‹_ ∧ _›).2 (by simp)) (by simp)⟩) 
    (first | (refine step_app rfl (.tmp 3) (.tmp 5) 22 rfl 50 i0 _ 2 16 Try.underlying22 hi hz0 hz1 hz2 rfl (by decide) (.slice (some ⟨_, 0, none⟩) 0 0) 0 [] rfl (own_empty ?hE) A st.seen.length c (st.seen.map dotV) rfl (HR.out _ ?hW).1.1 (by simp) HD1.out HD2.out (by unfold maxLen; omega) (by omega) ?_; (case hE => first | exact heap_alloc_new _ _ | exact heap_old2 _ _ _ | exact heap_new2 _ _ _ | exact (hk7 _ (by simp <;> omega) (by simp [Value.ownBlock])).trans (heap_alloc_new _ _) | exact (hk7 _ (by simp <;> omega) (by simp [Value.ownBlock])).trans (heap_old2 _ _ _) | exact (hk7 _ (by simp <;> omega) (by simp [Value.ownBlock])).trans (heap_new2 _ _ _)); (case hW => (first | exact hb7 | exact hb3 | exact bl_drew hB3 | exact bl_alloc hB3 (Nat.le_refl _) _ | exact bl_alloc (bl_drew hB3) (Nat.le_refl _) _ | exact bl_drew (bl_alloc hB3 (Nat.le_refl _) _) | exact bl_drew (bl_alloc (bl_alloc hB3 (Nat.le_refl _) _) (by simp) _) | exact bl_alloc (bl_drew (bl_alloc hB3 (Nat.le_refl _) _)) (by simp) _ | exact bl_alloc (bl_alloc hB3 (Nat.le_refl _) _) (by simp) _ | exact bl_alloc hb3 hb3.size _ | exact bl_alloc hb7 hb7.size _ | exact bl_drew (bl_alloc hb3 hb3.size _) | exact bl_drew (bl_alloc hb7 hb7.size _))); intro v3 w3 own3 hg3 hat3; rw [Nat.zero_add, List.nil_append] at own3; obtain ⟨A3, c3, rfl⟩ := own_form own3; have hk3 := hg3.block; have hb3 : Below w2.heap.size w2 w3 := Below.grown (by (first | exact hb7 | exact hb3 | exact bl_drew hB3 | exact bl_alloc hB3 (Nat.le_refl _) _ | exact bl_alloc (bl_drew hB3) (Nat.le_refl _) _ | exact bl_drew (bl_alloc hB3 (Nat.le_refl _) _) | exact bl_drew (bl_alloc (bl_alloc hB3 (Nat.le_refl _) _) (by simp) _) | exact bl_alloc (bl_drew (bl_alloc hB3 (Nat.le_refl _) _)) (by simp) _ | exact bl_alloc (bl_alloc hB3 (Nat.le_refl _) _) (by simp) _ | exact bl_alloc hb3 hb3.size _ | exact bl_alloc hb7 hb7.size _ | exact bl_drew (bl_alloc hb3 hb3.size _) | exact bl_drew (bl_alloc hb7 hb7.size _))) hg3 (Below.size (by (first | exact hb7 | exact hb3 | exact bl_drew hB3 | exact bl_alloc hB3 (Nat.le_refl _) _ | exact bl_alloc (bl_drew hB3) (Nat.le_refl _) _ | exact bl_drew (bl_alloc hB3 (Nat.le_refl _) _) | exact bl_drew (bl_alloc (bl_alloc hB3 (Nat.le_refl _) _) (by simp) _) | exact bl_alloc (bl_drew (bl_alloc hB3 (Nat.le_refl _) _)) (by simp) _ | exact bl_alloc (bl_alloc hB3 (Nat.le_refl _) _) (by simp) _ | exact bl_alloc hb3 hb3.size _ | exact bl_alloc hb7 hb7.size _ | exact bl_drew (bl_alloc hb3 hb3.size _) | exact bl_drew (bl_alloc hb7 hb7.size _)))) (by intro k hk; simp [Value.ownBlock] at hk; first | omega | (have := hb7.size; omega)); have O3 := own_of (B := w2.heap.size) own3 hat3 (by first | exact Nat.le_refl _ | exact Nat.le_succ _ | exact hb7.size) (Below.size (by (first | exact hb7 | exact hb3 | exact bl_drew hB3 | exact bl_alloc hB3 (Nat.le_refl _) _ | exact bl_alloc (bl_drew hB3) (Nat.le_refl _) _ | exact bl_drew (bl_alloc hB3 (Nat.le_refl _) _) | exact bl_drew (bl_alloc (bl_alloc hB3 (Nat.le_refl _) _) (by simp) _) | exact bl_alloc (bl_drew (bl_alloc hB3 (Nat.le_refl _) _)) (by simp) _ | exact bl_alloc (bl_alloc hB3 (Nat.le_refl _) _) (by simp) _ | exact bl_alloc hb3 hb3.size _ | exact bl_alloc hb7 hb7.size _ | exact bl_drew (bl_alloc hb3 hb3.size _) | exact bl_drew (bl_alloc hb7 hb7.size _)))); have R3 := r2.kp (Kp.of_below (P := fun _ => False) hb3) id; have r30 := R3.c 0; have r31 := R3.c 1; have s30 := R3.f 0; have s31 := R3.f 1; dsimp at r30; dsimp at r31) | (refine step_app rfl (.tmp 7) (.tmp 9) 23 rfl 145 i1 _ 4 40 Try.underlying23 hi1 hy0 hy1 hy2 rfl (by decide) (.slice (some ⟨_, 0, none⟩) 0 0) 0 [] rfl (own_empty ?hE) B st.sibs.length d (st.sibs.map sibV) rfl (HR.out _ ?hW).2.1 (by simp) HS1.out HS2.out (by unfold maxLen; omega) (by omega) ?_; (case hE => first | exact heap_alloc_new _ _ | exact heap_old2 _ _ _ | exact heap_new2 _ _ _ | exact (hk3 _ (by simp <;> omega) (by simp [Value.ownBlock])).trans (heap_alloc_new _ _) | exact (hk3 _ (by simp <;> omega) (by simp [Value.ownBlock])).trans (heap_old2 _ _ _) | exact (hk3 _ (by simp <;> omega) (by simp [Value.ownBlock])).trans (heap_new2 _ _ _)); (case hW => (first | exact hb7 | exact hb3 | exact bl_drew hB3 | exact bl_alloc hB3 (Nat.le_refl _) _ | exact bl_alloc (bl_drew hB3) (Nat.le_refl _) _ | exact bl_drew (bl_alloc hB3 (Nat.le_refl _) _) | exact bl_drew (bl_alloc (bl_alloc hB3 (Nat.le_refl _) _) (by simp) _) | exact bl_alloc (bl_drew (bl_alloc hB3 (Nat.le_refl _) _)) (by simp) _ | exact bl_alloc (bl_alloc hB3 (Nat.le_refl _) _) (by simp) _ | exact bl_alloc hb3 hb3.size _ | exact bl_alloc hb7 hb7.size _ | exact bl_drew (bl_alloc hb3 hb3.size _) | exact bl_drew (bl_alloc hb7 hb7.size _))); intro v7 w7 own7 hg7 hat7; rw [Nat.zero_add, List.nil_append] at own7; obtain ⟨A7, c7, rfl⟩ := own_form own7; have hk7 := hg7.block; have hb7 : Below w2.heap.size w2 w7 := Below.grown (by (first | exact hb7 | exact hb3 | exact bl_drew hB3 | exact bl_alloc hB3 (Nat.le_refl _) _ | exact bl_alloc (bl_drew hB3) (Nat.le_refl _) _ | exact bl_drew (bl_alloc hB3 (Nat.le_refl _) _) | exact bl_drew (bl_alloc (bl_alloc hB3 (Nat.le_refl _) _) (by simp) _) | exact bl_alloc (bl_drew (bl_alloc hB3 (Nat.le_refl _) _)) (by simp) _ | exact bl_alloc (bl_alloc hB3 (Nat.le_refl _) _) (by simp) _ | exact bl_alloc hb3 hb3.size _ | exact bl_alloc hb7 hb7.size _ | exact bl_drew (bl_alloc hb3 hb3.size _) | exact bl_drew (bl_alloc hb7 hb7.size _))) hg7 (Below.size (by (first | exact hb7 | exact hb3 | exact bl_drew hB3 | exact bl_alloc hB3 (Nat.le_refl _) _ | exact bl_alloc (bl_drew hB3) (Nat.le_refl _) _ | exact bl_drew (bl_alloc hB3 (Nat.le_refl _) _) | exact bl_drew (bl_alloc (bl_alloc hB3 (Nat.le_refl _) _) (by simp) _) | exact bl_alloc (bl_drew (bl_alloc hB3 (Nat.le_refl _) _)) (by simp) _ | exact bl_alloc (bl_alloc hB3 (Nat.le_refl _) _) (by simp) _ | exact bl_alloc hb3 hb3.size _ | exact bl_alloc hb7 hb7.size _ | exact bl_drew (bl_alloc hb3 hb3.size _) | exact bl_drew (bl_alloc hb7 hb7.size _)))) (by intro k hk; simp [Value.ownBlock] at hk; first | omega | (have := hb3.size; omega)); have O7 := own_of (B := w2.heap.size) own7 hat7 (by first | exact Nat.le_refl _ | exact Nat.le_succ _ | exact hb3.size) (Below.size (by (first | exact hb7 | exact hb3 | exact bl_drew hB3 | exact bl_alloc hB3 (Nat.le_refl _) _ | exact bl_alloc (bl_drew hB3) (Nat.le_refl _) _ | exact bl_drew (bl_alloc hB3 (Nat.le_refl _) _) | exact bl_drew (bl_alloc (bl_alloc hB3 (Nat.le_refl _) _) (by simp) _) | exact bl_alloc (bl_drew (bl_alloc hB3 (Nat.le_refl _) _)) (by simp) _ | exact bl_alloc (bl_alloc hB3 (Nat.le_refl _) _) (by simp) _ | exact bl_alloc hb3 hb3.size _ | exact bl_alloc hb7 hb7.size _ | exact bl_drew (bl_alloc hb3 hb3.size _) | exact bl_drew (bl_alloc hb7 hb7.size _)))); have R7 := r2.kp (Kp.of_below (P := fun _ => False) hb7) id; have r70 := R7.c 0; have r71 := R7.c 1; have s70 := R7.f 0; have s71 := R7.f 1; dsimp at r70; dsimp at r71))
  all_goals
    go_wp2
    first
      | refine retSt1 (r := w.heap.size + 1) Try.results22 rfl rfl ((R3.set 0 _).set 1 _) ?_
        have O73 := own_other (Own.below O7 (by first | exact Below.refl _ _ | exact (Below.refl _ _).alloc (Nat.le_refl _) _)) hg3 (by first | exact heap_alloc_new _ _ | exact heap_old2 _ _ _ | exact heap_new2 _ _ _ | exact (hk7 _ (by simp <;> omega) (by simp [Value.ownBlock])).trans (heap_alloc_new _ _) | exact (hk7 _ (by simp <;> omega) (by simp [Value.ownBlock])).trans (heap_old2 _ _ _) | exact (hk7 _ (by simp <;> omega) (by simp [Value.ownBlock])).trans (heap_new2 _ _ _)) (by decide)
        refine ⟨A3, A7, c3, c7, rfl, ?_, ?_, ?_⟩
        · exact ((O3.set (p := ⟨w.heap.size + 1, 0, none⟩) HNR.out _).set (p := ⟨w.heap.size + 1, 1, none⟩) HNR.out _).mono (fun k _ h => by have := HSZ.out; omega)
        · exact ((O73.set (p := ⟨w.heap.size + 1, 0, none⟩) HNR.out _).set (p := ⟨w.heap.size + 1, 1, none⟩) HNR.out _).mono (fun k _ h => by have := HSZ.out; omega)
        · exact bl_set (bl_set (hB2.trans (hb3.mono hB2.size)) (by simp) _) (by simp) _
      | refine retSt1 (r := w.heap.size + 1) Try.results22 rfl rfl ((R7.set 0 _).set 1 _) ?_
        have O37 := own_other (Own.below O3 (by first | exact Below.refl _ _ | exact (Below.refl _ _).alloc (Nat.le_refl _) _)) hg7 (by first | exact heap_alloc_new _ _ | exact heap_old2 _ _ _ | exact heap_new2 _ _ _ | exact (hk3 _ (by simp <;> omega) (by simp [Value.ownBlock])).trans (heap_alloc_new _ _) | exact (hk3 _ (by simp <;> omega) (by simp [Value.ownBlock])).trans (heap_old2 _ _ _) | exact (hk3 _ (by simp <;> omega) (by simp [Value.ownBlock])).trans (heap_new2 _ _ _)) (by decide)
        refine ⟨A3, A7, c3, c7, rfl, ?_, ?_, ?_⟩
        · exact ((O37.set (p := ⟨w.heap.size + 1, 0, none⟩) HNR.out _).set (p := ⟨w.heap.size + 1, 1, none⟩) HNR.out _).mono (fun k _ h => by have := HSZ.out; omega)
        · exact ((O7.set (p := ⟨w.heap.size + 1, 0, none⟩) HNR.out _).set (p := ⟨w.heap.size + 1, 1, none⟩) HNR.out _).mono (fun k _ h => by have := HSZ.out; omega)
        · exact bl_set (bl_set (hB2.trans (hb7.mono hB2.size)) (by simp) _) (by simp) _
end Go.Proofs.Ytfdiedcleggfnaa
