/- The first bytes of a digest; a key, and its segment: both sides. -/
import Derived.Test.YtfdiedcleggfnaaSha9
namespace Go.Proofs.Ytfdiedcleggfnaa
open Go.RowKit Go.Sort

theorem run_bytes_string {w : World} {b o n c : Nat} {f : Nat → UInt8} (hr : RdB w b o n f) (h0 : 0 < n) :
    (convert 210 9 (.slice (some ⟨b, o, none⟩) n c)).run Try.prog w = .ok (.string (strB ((List.range n).map f))) w := by
  have e : strB ((List.range n).map f) = strOfNums (((List.range n).map f).map fun b => (b.toNat : Int)) := (strB_vals _).symm
  rw [e]
  refine run_convert_bytes_arg w 210 5 Try.underlying210 Try.underlying5 b o n c _ (by simp) (fun i hi => ?_) 9 Try.underlying9
  rw [hr.2 i (by simpa using hi)]; simp [hi]
theorem wpList_bytes_string {w : World} {ops : Array Oper} {rest : List Oper} {op : Oper} {a : Act} {Q : Exit → Act → World → Prop} (hgd : op.guard = none) (x : Operand) (ho : op.op = .convert 210 9 x)
    {b o n c : Nat} {f : Nat → UInt8} (hx : a.eval x = .slice (some ⟨b, o, none⟩) n c) (hr : RdB w b o n f) (h0 : 0 < n)
    (h : wpList Try.prog ops Q rest (a.put op.dst (.string (strB ((List.range n).map f)))) w) : wpList Try.prog ops Q (op :: rest) a w :=
  wpList_plain hgd fun K hK => by
    unfold Oper.wp execOp
    simp only [ho, hx, Sem.run_bind, run_bytes_string hr h0, Result.andThen_ok]
    exact hK _ _ h
/-- The first bytes of a text's digest. -/
def cutB (s : ByteArray) (n : Nat) : ByteArray := strB ((List.range n).map fun j => (shaB s.data.toList).getD j 0)
theorem cutB_size (s : ByteArray) (n : Nat) : (cutB s n).size = n := by unfold cutB; rw [strB_size]; simp

set_option maxRecDepth 100000 in
set_option maxHeartbeats 2000000 in
theorem digCut (s : ByteArray) (n : Int) (w : World) (h2 : s.size ≤ 1000000000) :
    Calls Try.prog 55 #[.string s, .int .i64 n] w fun e w' => e = .returned (if 1 ≤ n ∧ n ≤ 32 then .tuple #[.string (cutB s n.toNat), .int .i64 0] else .tuple #[.string ⟨#[]⟩, .int .i64 1]) ∧ Below w.heap.size w w' := by
  generalize hOO : bytV 32 (fun j => (shaB s.data.toList).getD j 0) = O
  have hOs : O.size = 32 := by rw [← hOO]; exact bytV_size _ _
  have hO1 : O.all (·.oneCell') = true := by rw [← hOO]; exact bytV_one _ _
  have HOO := Lib.hid hOO
  have HOs := Lib.hid hOs
  have HO1 := Lib.hid hO1
  clear hOO hOs hO1
  by_cases hn : 1 ≤ n ∧ n ≤ 32
  · rw [if_pos hn]
    obtain ⟨hn1, hn2⟩ := hn
    obtain ⟨k, rfl⟩ : ∃ k : Nat, n = (k : Int) := ⟨n.toNat, by omega⟩
    have ec : cutB s (k : Int).toNat = strB ((List.range k).map fun j => (shaB s.data.toList).getD j 0) := rfl
    rw [ec]
    clear ec
    go_enter Try.func55, Try.ntmps55
    go_wp2_with (first | (go_at_call 153; refine (digOf s _ h2).mono ?_; rw [HOO.out]; rintro e w2 ⟨rfl, hb2⟩; have rO : RdB (w2.alloc (.cells O 208)) w2.heap.size 0 32 (fun j => (shaB s.data.toList).getD j 0) := (by have h := bytV_rd (Blk.new w2 (bytV 32 (fun j => (shaB s.data.toList).getD j 0)) 208); rw [HOO.out] at h; exact h)) | (refine wpList_store_rowTo (by rfl) 208 _ _ (by rfl) (by rfl) w2.heap.size O (by rfl) (by rfl) 208 z32 (heap_alloc_new _ _) (by rw [HOs.out]; kernel_rfl) (by rw [HOs.out]; rfl) HO1.out ?_; rw [World.setRow_alloc_new]) | (refine wpList_bytes_string (by rfl) (.tmp 16) (by rfl) (f := fun j => (shaB s.data.toList).getD j 0) (by rfl) ?hr ?h0 ?_; (case hr => exact ⟨rO.1, fun j hj => rO.2 j (by omega)⟩); (case h0 => omega)))
    go_ret2
    exact ⟨rfl, hb2.alloc hb2.size _⟩
  · rw [if_neg hn]
    have hd : decide (n < 1) = false → decide (32 < n) = true := fun h => decide_eq_true (by have := of_decide_eq_false h; omega)
    by_cases h1 : n < 1
    · go_enter Try.func55, Try.ntmps55
      go_wp2
      go_ret2
      exact ⟨rfl, Below.refl _ _⟩
    · have h3 : 32 < n := by omega
      go_enter Try.func55, Try.ntmps55
      go_wp2
      go_ret2
      exact ⟨rfl, Below.refl _ _⟩

/-- May this be a key? -/
def keyOk (s : ByteArray) : Bool := decide (1 ≤ s.size ∧ s.size ≤ 32)
def keyE (s : ByteArray) : Int := if keyOk s = true then 0 else 130
theorem keyE_yes {s : ByteArray} (h1 : 1 ≤ s.size) (h2 : s.size ≤ 32) : keyE s = 0 := by unfold keyE keyOk; rw [if_pos (decide_eq_true ⟨h1, h2⟩)]
theorem keyE_no {s : ByteArray} (h : s.size < 1 ∨ 32 < s.size) : keyE s = 130 := by unfold keyE keyOk; rw [if_neg (by simp; omega)]
theorem objKey (s : ByteArray) (w : World) : Calls Try.prog 85 #[.string s] w fun e w' => e = .returned (.int .i64 (keyE s)) ∧ w = w' := by
  by_cases h0 : s.size = 0
  · have hse : s.toList.isEmpty = true := by rw [isEmpty_size]; exact decide_eq_true h0
    rw [keyE_no (.inl (by omega))]
    clear h0
    go_enter Try.func85, Try.ntmps85
    go_wp2
    go_ret
    exact ⟨rfl, rfl⟩
  · have hse : s.toList.isEmpty = false := by rw [isEmpty_size]; exact decide_eq_false h0
    by_cases h1 : s.size ≤ 32
    · rw [keyE_yes (by omega) h1]
      go_enter Try.func85, Try.ntmps85
      go_wp2
      go_ret
      exact ⟨rfl, rfl⟩
    · rw [keyE_no (.inr (by omega))]
      go_enter Try.func85, Try.ntmps85
      go_wp2
      go_ret
      exact ⟨rfl, rfl⟩
theorem refKey (s : ByteArray) (w : World) : Calls Try.prog 128 #[.string s] w fun e w' => e = .returned (.int .i64 (keyE s)) ∧ w = w' := by
  by_cases h0 : s.size < 1
  · rw [keyE_no (.inl h0)]
    go_enter Try.func128, Try.ntmps128
    go_wp2
    go_ret
    exact ⟨rfl, rfl⟩
  · by_cases h1 : s.size ≤ 32
    · rw [keyE_yes (by omega) h1]
      go_enter Try.func128, Try.ntmps128
      go_wp2
      go_ret
      exact ⟨rfl, rfl⟩
    · rw [keyE_no (.inr (by omega))]
      go_enter Try.func128, Try.ntmps128
      go_wp2
      go_ret
      exact ⟨rfl, rfl⟩

theorem refOf' (s : ByteArray) (w : World) (h2 : (⟨#[75]⟩ ++ s : ByteArray).size ≤ 1000000000) :
    Calls Try.prog 213 #[.string (⟨#[75]⟩ ++ s)] w fun e w' => e = .returned (.agg (bytV 32 (fun j => (shaB (⟨#[75]⟩ ++ s : ByteArray).data.toList).getD j 0))) ∧ Below w.heap.size w w' :=
  refOf _ w (by rw [ByteArray.size_append]; show 1 ≤ 1 + s.size; omega) h2
/-- A key's segment. -/
def placeN (s : ByteArray) : Nat := 16 * ((shaB ((⟨#[75]⟩ ++ s : ByteArray)).data.toList).getD 0 0).toNat + ((shaB ((⟨#[75]⟩ ++ s : ByteArray)).data.toList).getD 1 0).toNat / 16
theorem placeN_lt (s : ByteArray) : placeN s < 4096 := by
  unfold placeN
  have h1 := ((shaB ((⟨#[75]⟩ ++ s : ByteArray)).data.toList).getD 0 0).toNat_lt
  have h2 := ((shaB ((⟨#[75]⟩ ++ s : ByteArray)).data.toList).getD 1 0).toNat_lt
  omega
def placeR (s : ByteArray) : Value := if keyOk s = true then .tuple #[.int .i64 (placeN s), .int .i64 0] else .tuple #[.int .i64 0, .int .i64 130]
theorem orPlace (a b : Nat) (ha : a < 256) (hb : b < 256) : bits .or .i64 ((a : Int) * 16) ((b : Int) / 16) = ((16 * a + b / 16 : Nat) : Int) := by
  have : ∀ (a : Fin 256) (c : Fin 16), bits .or .i64 ((a.val : Int) * 16) ((c.val : Nat) : Int) = ((16 * a.val + c.val : Nat) : Int) := by decide +kernel
  have h := this ⟨a, ha⟩ ⟨b / 16, by omega⟩
  simp only at h
  rw [← h]; congr 1
set_option maxRecDepth 100000 in
set_option maxHeartbeats 2000000 in
theorem objPlace (s : ByteArray) (w : World) : Calls Try.prog 84 #[.string s] w fun e w' => e = .returned (placeR s) ∧ Below w.heap.size w w' := by
  by_cases hk : keyOk s = true
  · have hk' := of_decide_eq_true hk
    obtain ⟨hk1, hk2⟩ := hk'
    have he := keyE_yes hk1 hk2
    have HP : Hid (placeR s = .tuple #[.int .i64 (placeN s), .int .i64 0]) := if_pos hk
    have HE := Lib.hid he
    clear hk he
    generalize hOO : bytV 32 (fun j => (shaB ((⟨#[75]⟩ ++ s : ByteArray)).data.toList).getD j 0) = O
    have hOs : O.size = 32 := by rw [← hOO]; exact bytV_size _ _
    have hO1 : O.all (·.oneCell') = true := by rw [← hOO]; exact bytV_one _ _
    have HOO := Lib.hid hOO
    have HOs := Lib.hid hOs
    have HO1 := Lib.hid hO1
    clear hOO hOs hO1
    obtain ⟨X0, hx0⟩ : ∃ X0, X0 = ((shaB ((⟨#[75]⟩ ++ s : ByteArray)).data.toList).getD 0 0).toNat := ⟨_, rfl⟩
    obtain ⟨X1, hx1⟩ : ∃ X1, X1 = ((shaB ((⟨#[75]⟩ ++ s : ByteArray)).data.toList).getD 1 0).toNat := ⟨_, rfl⟩
    have hb0 : X0 < 256 := by rw [hx0]; exact UInt8.toNat_lt _
    have hb1 : X1 < 256 := by rw [hx1]; exact UInt8.toNat_lt _
    have hv := orPlace X0 X1 hb0 hb1
    have HPN : Hid (placeN s = 16 * X0 + X1 / 16) := by rw [hx0, hx1]; rfl
    have HX0 := Lib.hid hx0.symm
    have HX1 := Lib.hid hx1.symm
    clear hx0 hx1
    rw [HP.out, HPN.out]
    go_enter Try.func84, Try.ntmps84
    go_wp2_with (first | (go_at_call 85; refine (objKey s _).mono ?_; rw [HE.out]; rintro e w1 ⟨rfl, rfl⟩) | (go_at_call 153; refine (digOf _ _ (by rw [ByteArray.size_append]; show 1 + s.size ≤ _; omega)).mono ?_; rw [HOO.out]; rintro e w2 ⟨rfl, hb2⟩; have rO : RdB (w2.alloc (.cells O 208)) w2.heap.size 0 32 (fun j => (shaB ((⟨#[75]⟩ ++ s : ByteArray)).data.toList).getD j 0) := (by have h := bytV_rd (Blk.new w2 (bytV 32 (fun j => (shaB ((⟨#[75]⟩ ++ s : ByteArray)).data.toList).getD j 0)) 208); rw [HOO.out] at h; exact h); have z0 := rO.2 0 (by omega); have z1 := rO.2 1 (by omega); rw [Nat.zero_add] at z0 z1; rw [HX0.out] at z0; rw [HX1.out] at z1; clear rO) | (refine wpList_store_rowTo (by rfl) 208 _ _ (by rfl) (by rfl) w2.heap.size O (by rfl) (by rfl) 208 z32 (heap_alloc_new _ _) (by rw [HOs.out]; kernel_rfl) (by rw [HOs.out]; rfl) HO1.out ?_; rw [World.setRow_alloc_new]))
    go_ret2
    exact ⟨rfl, hb2.alloc hb2.size _⟩
  · have he : keyE s = 130 := if_neg hk
    have HP : Hid (placeR s = .tuple #[.int .i64 0, .int .i64 130]) := if_neg hk
    have HE := Lib.hid he
    clear hk he
    rw [HP.out]
    go_enter Try.func84, Try.ntmps84
    go_wp2_with (go_at_call 85; refine (objKey s _).mono ?_; rw [HE.out]; rintro e w1 ⟨rfl, rfl⟩)
    go_ret2
    exact ⟨rfl, Below.refl _ _⟩
set_option maxRecDepth 100000 in
set_option maxHeartbeats 2000000 in
theorem refPlace (s : ByteArray) (w : World) : Calls Try.prog 127 #[.string s] w fun e w' => e = .returned (placeR s) ∧ Below w.heap.size w w' := by
  by_cases hk : keyOk s = true
  · have hk' := of_decide_eq_true hk
    obtain ⟨hk1, hk2⟩ := hk'
    have he := keyE_yes hk1 hk2
    have HP : Hid (placeR s = .tuple #[.int .i64 (placeN s), .int .i64 0]) := if_pos hk
    have HE := Lib.hid he
    clear hk he
    generalize hOO : bytV 32 (fun j => (shaB ((⟨#[75]⟩ ++ s : ByteArray)).data.toList).getD j 0) = O
    have hOs : O.size = 32 := by rw [← hOO]; exact bytV_size _ _
    have hO1 : O.all (·.oneCell') = true := by rw [← hOO]; exact bytV_one _ _
    have HOO := Lib.hid hOO
    have HOs := Lib.hid hOs
    have HO1 := Lib.hid hO1
    clear hOO hOs hO1
    obtain ⟨X0, hx0⟩ : ∃ X0, X0 = ((shaB ((⟨#[75]⟩ ++ s : ByteArray)).data.toList).getD 0 0).toNat := ⟨_, rfl⟩
    obtain ⟨X1, hx1⟩ : ∃ X1, X1 = ((shaB ((⟨#[75]⟩ ++ s : ByteArray)).data.toList).getD 1 0).toNat := ⟨_, rfl⟩
    have hb0 : X0 < 256 := by rw [hx0]; exact UInt8.toNat_lt _
    have hb1 : X1 < 256 := by rw [hx1]; exact UInt8.toNat_lt _
    have HPN : Hid (placeN s = 16 * X0 + X1 / 16) := by rw [hx0, hx1]; rfl
    have HX0 := Lib.hid hx0.symm
    have HX1 := Lib.hid hx1.symm
    clear hx0 hx1
    rw [HP.out, HPN.out]
    go_enter Try.func127, Try.ntmps127
    go_wp2_with (first | (go_at_call 128; refine (refKey s _).mono ?_; rw [HE.out]; rintro e w1 ⟨rfl, rfl⟩) | (go_at_call 213; refine (refOf'  _ _ (by rw [ByteArray.size_append]; show 1 + s.size ≤ _; omega)).mono ?_; rw [HOO.out]; rintro e w2 ⟨rfl, hb2⟩; have rO : RdB (w2.alloc (.cells O 208)) w2.heap.size 0 32 (fun j => (shaB ((⟨#[75]⟩ ++ s : ByteArray)).data.toList).getD j 0) := (by have h := bytV_rd (Blk.new w2 (bytV 32 (fun j => (shaB ((⟨#[75]⟩ ++ s : ByteArray)).data.toList).getD j 0)) 208); rw [HOO.out] at h; exact h); have z0 := rO.2 0 (by omega); have z1 := rO.2 1 (by omega); rw [Nat.zero_add] at z0 z1; rw [HX0.out] at z0; rw [HX1.out] at z1; clear rO) | (refine wpList_store_rowTo (by rfl) 208 _ _ (by rfl) (by rfl) w2.heap.size O (by rfl) (by rfl) 208 z32 (heap_alloc_new _ _) (by rw [HOs.out]; kernel_rfl) (by rw [HOs.out]; rfl) HO1.out ?_; rw [World.setRow_alloc_new]))
    go_ret2
    exact ⟨by simp, hb2.alloc hb2.size _⟩
  · have he : keyE s = 130 := if_neg hk
    have HP : Hid (placeR s = .tuple #[.int .i64 0, .int .i64 130]) := if_neg hk
    have HE := Lib.hid he
    clear hk he
    rw [HP.out]
    go_enter Try.func127, Try.ntmps127
    go_wp2_with (go_at_call 128; refine (refKey s _).mono ?_; rw [HE.out]; rintro e w1 ⟨rfl, rfl⟩)
    go_ret2
    exact ⟨rfl, Below.refl _ _⟩
end Go.Proofs.Ytfdiedcleggfnaa
