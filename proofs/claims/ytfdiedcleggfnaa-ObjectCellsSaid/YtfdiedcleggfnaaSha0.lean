/- The digest in plain words: words of 32 bits, its rounds, its blocks. -/
import Derived.Test.YtfdiedcleggfnaaDec1
import Derived.Laws.BitsAllLaws
namespace Go.Proofs.Ytfdiedcleggfnaa
open Go.RowKit

abbrev W32 := BitVec 32
/-- A word as the machine's number. -/
def iw (b : W32) : Int := (b.toNat : Int)
theorem iw_bd (b : W32) : 0 ≤ iw b ∧ iw b ≤ 4294967295 := by unfold iw; have := b.isLt; omega
theorem ofInt_iw (b : W32) : BitVec.ofInt 32 (iw b) = b := by unfold iw; rw [BitVec.ofInt_natCast]; simp
theorem wrap_iw (b : W32) : IntKind.u32.wrap ((b.toNat : Nat) : Int) = iw b := by rw [IntKind.wrap_u32']; unfold iw; have := b.isLt; omega
theorem iw_xor (a b : W32) : bits .xor .u32 (iw a) (iw b) = iw (a ^^^ b) := by
  show IntKind.u32.wrap ((BitVec.ofInt 32 (iw a) ^^^ BitVec.ofInt 32 (iw b)).toNat : Int) = _
  rw [ofInt_iw, ofInt_iw, wrap_iw]
theorem iw_and (a b : W32) : bits .and .u32 (iw a) (iw b) = iw (a &&& b) := by
  show IntKind.u32.wrap ((BitVec.ofInt 32 (iw a) &&& BitVec.ofInt 32 (iw b)).toNat : Int) = _
  rw [ofInt_iw, ofInt_iw, wrap_iw]
theorem iw_or (a b : W32) : bits .or .u32 (iw a) (iw b) = iw (a ||| b) := by
  show IntKind.u32.wrap ((BitVec.ofInt 32 (iw a) ||| BitVec.ofInt 32 (iw b)).toNat : Int) = _
  rw [ofInt_iw, ofInt_iw, wrap_iw]
theorem iw_andNot (a b : W32) : bits .andNot .u32 (iw a) (iw b) = iw (a &&& ~~~b) := by
  show IntKind.u32.wrap ((BitVec.ofInt 32 (iw a) &&& ~~~BitVec.ofInt 32 (iw b)).toNat : Int) = _
  rw [ofInt_iw, ofInt_iw, wrap_iw]
theorem iw_not (b : W32) : bits .xor .u32 4294967295 (iw b) = iw (~~~b) := by
  have : (4294967295 : Int) = iw (BitVec.allOnes 32) := by decide
  rw [this, iw_xor, BitVec.allOnes_xor]
theorem iw_add (a b : W32) : IntKind.u32.wrap (iw a + iw b) = iw (a + b) := by
  rw [IntKind.wrap_u32']; unfold iw; rw [BitVec.toNat_add]; omega
theorem iw_shr (x : W32) (n : Nat) : iw x / 2 ^ n = iw (x >>> n) := by
  unfold iw; rw [BitVec.toNat_ushiftRight, Nat.shiftRight_eq_div_pow]; simp
theorem iw_shl (x : W32) (n : Nat) : IntKind.u32.wrap (iw x * 2 ^ n) = iw (x <<< n) := by
  rw [IntKind.wrap_u32']; unfold iw; rw [BitVec.toNat_shiftLeft, Nat.shiftLeft_eq]; simp
theorem iw_rot (x : W32) (n : Nat) (h : n < 32) : iw ((x >>> n) ||| (x <<< (32 - n))) = iw (x.rotateRight n) := by
  unfold BitVec.rotateRight BitVec.rotateRightAux; rw [Nat.mod_eq_of_lt h]
/-- Four bytes as a word, the highest first. -/
def be4 (a b c d : UInt8) : W32 := BitVec.ofNat 32 (a.toNat * 16777216 + b.toNat * 65536 + c.toNat * 256 + d.toNat)
theorem iw_be4 (a b c d : UInt8) : iw (be4 a b c d) = (a.toNat : Int) * 16777216 + (b.toNat : Int) * 65536 + (c.toNat : Int) * 256 + (d.toNat : Int) := by
  unfold iw be4; rw [BitVec.toNat_ofNat]
  have h1 := a.toNat_lt; have h2 := b.toNat_lt; have h3 := c.toNat_lt; have h4 := d.toNat_lt
  rw [Nat.mod_eq_of_lt (by omega)]; omega

/-! ### The rounds -/
structure S8 where
  a : W32
  b : W32
  c : W32
  d : W32
  e : W32
  f : W32
  g : W32
  h : W32
  deriving DecidableEq
def ksh : List W32 := [
  0x428a2f98, 0x71374491, 0xb5c0fbcf, 0xe9b5dba5, 0x3956c25b, 0x59f111f1, 0x923f82a4, 0xab1c5ed5,
  0xd807aa98, 0x12835b01, 0x243185be, 0x550c7dc3, 0x72be5d74, 0x80deb1fe, 0x9bdc06a7, 0xc19bf174,
  0xe49b69c1, 0xefbe4786, 0x0fc19dc6, 0x240ca1cc, 0x2de92c6f, 0x4a7484aa, 0x5cb0a9dc, 0x76f988da,
  0x983e5152, 0xa831c66d, 0xb00327c8, 0xbf597fc7, 0xc6e00bf3, 0xd5a79147, 0x06ca6351, 0x14292967,
  0x27b70a85, 0x2e1b2138, 0x4d2c6dfc, 0x53380d13, 0x650a7354, 0x766a0abb, 0x81c2c92e, 0x92722c85,
  0xa2bfe8a1, 0xa81a664b, 0xc24b8b70, 0xc76c51a3, 0xd192e819, 0xd6990624, 0xf40e3585, 0x106aa070,
  0x19a4c116, 0x1e376c08, 0x2748774c, 0x34b0bcb5, 0x391c0cb3, 0x4ed8aa4a, 0x5b9cca4f, 0x682e6ff3,
  0x748f82ee, 0x78a5636f, 0x84c87814, 0x8cc70208, 0x90befffa, 0xa4506ceb, 0xbef9a3f7, 0xc67178f2]
def hsh : S8 := ⟨0x6a09e667, 0xbb67ae85, 0x3c6ef372, 0xa54ff53a, 0x510e527f, 0x9b05688c, 0x1f83d9ab, 0x5be0cd19⟩
def kAt (i : Nat) : W32 := ksh.getD i 0
theorem ksh_length : ksh.length = 64 := rfl
def sg0 (x : W32) : W32 := x.rotateRight 7 ^^^ x.rotateRight 18 ^^^ (x >>> 3)
def sg1 (x : W32) : W32 := x.rotateRight 17 ^^^ x.rotateRight 19 ^^^ (x >>> 10)
def bs1 (x : W32) : W32 := x.rotateRight 6 ^^^ x.rotateRight 11 ^^^ x.rotateRight 25
def bs0 (x : W32) : W32 := x.rotateRight 2 ^^^ x.rotateRight 13 ^^^ x.rotateRight 22
def chW (e f g : W32) : W32 := (e &&& f) ^^^ (~~~e &&& g)
def maW (a b c : W32) : W32 := (a &&& b) ^^^ (a &&& c) ^^^ (b &&& c)
theorem ch_or (e f g : W32) : (e &&& f) ||| (g &&& ~~~e) = chW e f g := by
  unfold chW; apply BitVec.eq_of_getLsbD_eq; intro i hi
  simp only [BitVec.getLsbD_or, BitVec.getLsbD_and, BitVec.getLsbD_xor, BitVec.getLsbD_not, hi]
  cases e.getLsbD i <;> cases f.getLsbD i <;> cases g.getLsbD i <;> rfl
theorem ma_or (a b c : W32) : ((a &&& b) ||| (a &&& c)) ||| (b &&& c) = maW a b c := by
  unfold maW; apply BitVec.eq_of_getLsbD_eq; intro i hi
  simp only [BitVec.getLsbD_or, BitVec.getLsbD_and, BitVec.getLsbD_xor]
  cases a.getLsbD i <;> cases b.getLsbD i <;> cases c.getLsbD i <;> rfl
/-- The words of a block: the first n of them. -/
def wsL (m : Nat → W32) : Nat → List W32
  | 0 => []
  | n + 1 => (fun l => l ++ [if n < 16 then m n else l.getD (n - 16) 0 + sg0 (l.getD (n - 15) 0) + l.getD (n - 7) 0 + sg1 (l.getD (n - 2) 0)]) (wsL m n)
theorem wsL_length (m : Nat → W32) (n : Nat) : (wsL m n).length = n := by induction n with
  | zero => rfl
  | succ n ih => simp [wsL, ih]
def wAt (m : Nat → W32) (t : Nat) : W32 := (wsL m (t + 1)).getD t 0
theorem wsL_getD (m : Nat → W32) {n t : Nat} (h : t < n) : (wsL m n).getD t 0 = wAt m t := by
  induction n with
  | zero => omega
  | succ n ih =>
    by_cases e : t = n
    · subst e; rfl
    · rw [← ih (by omega)]
      simp only [wsL, List.getD_eq_getElem?_getD]
      rw [List.getElem?_append_left (by rw [wsL_length]; omega)]
theorem wAt_lo (m : Nat → W32) {t : Nat} (h : t < 16) : wAt m t = m t := by
  unfold wAt; simp only [wsL, List.getD_eq_getElem?_getD]
  rw [List.getElem?_append_right (by rw [wsL_length]; omega), wsL_length]; simp [h]
theorem wAt_hi (m : Nat → W32) {t : Nat} (h : 16 ≤ t) : wAt m t = wAt m (t - 16) + sg0 (wAt m (t - 15)) + wAt m (t - 7) + sg1 (wAt m (t - 2)) := by
  rw [← wsL_getD m (show t - 16 < t by omega), ← wsL_getD m (show t - 15 < t by omega), ← wsL_getD m (show t - 7 < t by omega), ← wsL_getD m (show t - 2 < t by omega)]
  show (wsL m (t + 1)).getD t 0 = _
  simp only [wsL]
  rw [List.getD_eq_getElem?_getD, List.getElem?_append_right (by rw [wsL_length]; omega), wsL_length]
  simp [show ¬ t < 16 by omega]
def tW (s : S8) (k w : W32) : W32 := s.h + bs1 s.e + chW s.e s.f s.g + k + w
def uW (s : S8) : W32 := bs0 s.a + maW s.a s.b s.c
def roundW (s : S8) (k w : W32) : S8 := ⟨tW s k w + uW s, s.a, s.b, s.c, s.d + tW s k w, s.e, s.f, s.g⟩
def roundsW (m : Nat → W32) (st : S8) : Nat → S8
  | 0 => st
  | n + 1 => roundW (roundsW m st n) (kAt n) (wAt m n)
def addW (s t : S8) : S8 := ⟨s.a + t.a, s.b + t.b, s.c + t.c, s.d + t.d, s.e + t.e, s.f + t.f, s.g + t.g, s.h + t.h⟩
/-- The state behind a block. -/
def stepW (st : S8) (m : Nat → W32) : S8 := addW (roundsW m st 64) st
/-- The words of the i-th block of bytes. -/
def blkW (bs : List UInt8) (i t : Nat) : W32 := be4 (bs.getD (64 * i + 4 * t) 0) (bs.getD (64 * i + 4 * t + 1) 0) (bs.getD (64 * i + 4 * t + 2) 0) (bs.getD (64 * i + 4 * t + 3) 0)
def blocksW (bs : List UInt8) : Nat → S8
  | 0 => hsh
  | n + 1 => stepW (blocksW bs n) (blkW bs n)
/-- What stands behind n bytes. -/
def padN (n : Nat) : Nat := 64 - (n + 8) % 64
def fillB (n : Nat) : List UInt8 := 128 :: (List.replicate (padN n - 1) 0 ++ (List.range 8).map fun i => UInt8.ofNat (8 * n / 2 ^ (56 - 8 * i)))
theorem padN_bd (n : Nat) : 1 ≤ padN n ∧ padN n ≤ 64 := by unfold padN; omega
theorem fillB_length (n : Nat) : (fillB n).length = padN n + 8 := by unfold fillB; have := padN_bd n; simp; omega
theorem fill_whole (n : Nat) : (n + (fillB n).length) % 64 = 0 := by rw [fillB_length]; unfold padN; omega
def S8.l (s : S8) : List W32 := [s.a, s.b, s.c, s.d, s.e, s.f, s.g, s.h]
def byteW (x : W32) (i : Nat) : UInt8 := UInt8.ofNat (x.toNat / 2 ^ (24 - 8 * i))
def outB (s : S8) : List UInt8 := (List.range 32).map fun i => byteW (s.l.getD (i / 4) 0) (i % 4)
def shaB (bs : List UInt8) : List UInt8 := outB (blocksW (bs ++ fillB bs.length) ((bs.length + (fillB bs.length).length) / 64))
theorem shaB_length (bs : List UInt8) : (shaB bs).length = 32 := by simp [shaB, outB]
end Go.Proofs.Ytfdiedcleggfnaa
