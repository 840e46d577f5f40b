/-
  SHA-256 in plain words: on whole numbers below 2 ^ 32. No program here.
-/
import Derived.Test.YtoeobcmmafncmaaDoorMaa
import Derived.Laws.BitsAllLaws
import Derived.WalkSmall
import Derived.Outline
import Derived.Deep.RegionWith
import Derived.Deep.DeepCutAuto
namespace Go.Proofs.YtoeobcmmafncmaaDoor
open Go.RowKit

def M32 : Nat := 4294967296
/-- A rotation to the right. -/
def rotN (v a : Nat) : Nat := (v * 2 ^ (32 - a) % 4294967296) ||| (v / 2 ^ a)
theorem rotN_lt {v a : Nat} (h : v < 4294967296) : rotN v a < 4294967296 := by
  unfold rotN
  exact Nat.or_lt_two_pow (n := 32) (Nat.mod_lt _ (by decide)) (Nat.lt_of_le_of_lt (Nat.div_le_self _ _) h)
def rot3 (v a b c : Nat) : Nat := rotN v a ^^^ rotN v b ^^^ rotN v c
theorem xor_lt {a b : Nat} (ha : a < 4294967296) (hb : b < 4294967296) : a ^^^ b < 4294967296 := Nat.xor_lt_two_pow (n := 32) ha hb
theorem rot3_lt {v a b c : Nat} (h : v < 4294967296) : rot3 v a b c < 4294967296 := xor_lt (xor_lt (rotN_lt h) (rotN_lt h)) (rotN_lt h)
/-- The next word of a schedule: of the words 16, 15, 7 and 2 places before. -/
def nextW (z y s x : Nat) : Nat := (z + (rotN y 7 ^^^ rotN y 18 ^^^ y / 8) + s + (rotN x 17 ^^^ rotN x 19 ^^^ x / 1024)) % 4294967296
def growW (w : List Nat) : List Nat := w ++ [nextW (w[w.length - 16]?.getD 0) (w[w.length - 15]?.getD 0) (w[w.length - 7]?.getD 0) (w[w.length - 2]?.getD 0)]
def schedW (w : List Nat) : Nat → List Nat
  | 0 => w
  | k + 1 => growW (schedW w k)
/-- The state. -/
structure S8 where
  a : Nat
  b : Nat
  c : Nat
  d : Nat
  e : Nat
  f : Nat
  g : Nat
  h : Nat
def S8.ok (s : S8) : Prop := s.a < 4294967296 ∧ s.b < 4294967296 ∧ s.c < 4294967296 ∧ s.d < 4294967296 ∧ s.e < 4294967296 ∧ s.f < 4294967296 ∧ s.g < 4294967296 ∧ s.h < 4294967296
def S8.list (s : S8) : List Nat := [s.a, s.b, s.c, s.d, s.e, s.f, s.g, s.h]
def roundP (s : S8) (k w : Nat) : Nat := (s.h + rot3 s.e 6 11 25 + (s.g ^^^ (s.e &&& (s.f ^^^ s.g))) + k + w) % 4294967296
def roundQ (s : S8) : Nat := (rot3 s.a 2 13 22 + ((s.a &&& s.b) ||| (s.c &&& (s.a ||| s.b)))) % 4294967296
def roundS (s : S8) (k w : Nat) : S8 := ⟨(roundP s k w + roundQ s) % 4294967296, s.a, s.b, s.c, (s.d + roundP s k w) % 4294967296, s.e, s.f, s.g⟩
theorem roundS_ok {s : S8} {k w : Nat} (h : s.ok) : (roundS s k w).ok := by
  obtain ⟨h1, h2, h3, h4, h5, h6, h7, h8⟩ := h
  exact ⟨Nat.mod_lt _ (by decide), h1, h2, h3, Nat.mod_lt _ (by decide), h5, h6, h7⟩
def roundsS (ks ws : List Nat) (s : S8) : Nat → S8
  | 0 => s
  | t + 1 => roundS (roundsS ks ws s t) (ks[t]?.getD 0) (ws[t]?.getD 0)
theorem roundsS_ok {ks ws : List Nat} {s : S8} (h : s.ok) : ∀ t, (roundsS ks ws s t).ok
  | 0 => h
  | t + 1 => roundS_ok (roundsS_ok h t)
def addS (s v : S8) : S8 := ⟨(s.a + v.a) % 4294967296, (s.b + v.b) % 4294967296, (s.c + v.c) % 4294967296, (s.d + v.d) % 4294967296, (s.e + v.e) % 4294967296, (s.f + v.f) % 4294967296, (s.g + v.g) % 4294967296, (s.h + v.h) % 4294967296⟩
theorem addS_ok (s v : S8) : (addS s v).ok := ⟨Nat.mod_lt _ (by decide), Nat.mod_lt _ (by decide), Nat.mod_lt _ (by decide), Nat.mod_lt _ (by decide), Nat.mod_lt _ (by decide), Nat.mod_lt _ (by decide), Nat.mod_lt _ (by decide), Nat.mod_lt _ (by decide)⟩
def shaK : List Nat := [
  0x428a2f98, 0x71374491, 0xb5c0fbcf, 0xe9b5dba5, 0x3956c25b, 0x59f111f1, 0x923f82a4, 0xab1c5ed5, 0xd807aa98, 0x12835b01, 0x243185be, 0x550c7dc3, 0x72be5d74, 0x80deb1fe, 0x9bdc06a7, 0xc19bf174,
  0xe49b69c1, 0xefbe4786, 0x0fc19dc6, 0x240ca1cc, 0x2de92c6f, 0x4a7484aa, 0x5cb0a9dc, 0x76f988da, 0x983e5152, 0xa831c66d, 0xb00327c8, 0xbf597fc7, 0xc6e00bf3, 0xd5a79147, 0x06ca6351, 0x14292967,
  0x27b70a85, 0x2e1b2138, 0x4d2c6dfc, 0x53380d13, 0x650a7354, 0x766a0abb, 0x81c2c92e, 0x92722c85, 0xa2bfe8a1, 0xa81a664b, 0xc24b8b70, 0xc76c51a3, 0xd192e819, 0xd6990624, 0xf40e3585, 0x106aa070,
  0x19a4c116, 0x1e376c08, 0x2748774c, 0x34b0bcb5, 0x391c0cb3, 0x4ed8aa4a, 0x5b9cca4f, 0x682e6ff3, 0x748f82ee, 0x78a5636f, 0x84c87814, 0x8cc70208, 0x90befffa, 0xa4506ceb, 0xbef9a3f7, 0xc67178f2]
def shaS : S8 := ⟨0x6a09e667, 0xbb67ae85, 0x3c6ef372, 0xa54ff53a, 0x510e527f, 0x9b05688c, 0x1f83d9ab, 0x5be0cd19⟩
theorem shaS_ok : shaS.ok := by unfold S8.ok shaS; decide
theorem shaK_len : shaK.length = 64 := rfl
theorem shaK_lt : ∀ x ∈ shaK, x < 4294967296 := by decide
/-- The words of a block of 64 bytes. -/
def wordN (a b c d : Nat) : Nat := ((a * 256 + b) * 256 + c) * 256 + d
def wordAt (l : List Nat) (t : Nat) : Nat := wordN (l[4 * t]?.getD 0) (l[4 * t + 1]?.getD 0) (l[4 * t + 2]?.getD 0) (l[4 * t + 3]?.getD 0)
def words (l : List Nat) (n : Nat) : List Nat := (List.range n).map (wordAt l)
theorem words_len (l : List Nat) (n : Nat) : (words l n).length = n := by simp [words]
theorem words_succ (l : List Nat) (n : Nat) : words l (n + 1) = words l n ++ [wordAt l n] := by simp [words, List.range_succ]
def blockS (s : S8) (l : List Nat) : S8 := addS s (roundsS shaK (schedW (words l 16) 48) s 64)
theorem blockS_ok (s : S8) (l : List Nat) : (blockS s l).ok := addS_ok _ _
/-- All blocks of a list. -/
def blocksS (s : S8) (l : List Nat) : Nat → S8
  | 0 => s
  | k + 1 => blockS (blocksS s l k) ((l.drop (64 * k)).take 64)
theorem blocksS_ok {s : S8} {l : List Nat} (h : s.ok) : ∀ k, (blocksS s l k).ok
  | 0 => h
  | _ + 1 => blockS_ok _ _
/-- The bytes of a number, the most significant one first. -/
def bytesN (n : Nat) : Nat → List Nat
  | 0 => []
  | k + 1 => bytesN (n / 256) k ++ [n % 256]
theorem bytesN_len (n : Nat) : ∀ k, (bytesN n k).length = k
  | 0 => rfl
  | k + 1 => by simp [bytesN, bytesN_len (n / 256) k]
/-- What is added to a text of n bytes. -/
def padN (n : Nat) : List Nat := 128 :: (List.replicate ((119 - n % 64) % 64) 0 ++ bytesN (n * 8 % 18446744073709551616) 8)
def shaN (l : List Nat) : List Nat := (blocksS shaS (l ++ padN l.length) ((l.length + 72) / 64)).list.flatMap fun v => bytesN v 4
theorem flat4_len : ∀ l : List Nat, (l.flatMap fun v => bytesN v 4).length = 4 * l.length
  | [] => rfl
  | v :: l => by rw [List.flatMap_cons, List.length_append, bytesN_len, flat4_len l, List.length_cons]; omega
theorem shaN_len (l : List Nat) : (shaN l).length = 32 := by unfold shaN; rw [flat4_len]; rfl
def taggedN (tag l : List Nat) : List Nat := shaN (shaN tag ++ l)
theorem taggedN_len (tag l : List Nat) : (taggedN tag l).length = 32 := shaN_len _

/-- Bytes in memory. -/
def byts (l : List Nat) : List Value := l.map fun n : Nat => Value.int .u8 (n : Int)
def u32s (l : List Nat) : List Value := l.map fun n : Nat => Value.int .u32 (n : Int)
theorem byts_length (l : List Nat) : (byts l).length = l.length := by simp [byts]
theorem u32s_length (l : List Nat) : (u32s l).length = l.length := by simp [u32s]
theorem byts_at {l : List Nat} {k x : Nat} (h : l[k]? = some x) : (byts l)[k]? = some (.int .u8 x) := by simp [byts, h]
theorem u32s_at {l : List Nat} {k x : Nat} (h : l[k]? = some x) : (u32s l)[k]? = some (.int .u32 x) := by simp [u32s, h]
def okB (l : List Nat) : Prop := ∀ x ∈ l, x < 256

end Go.Proofs.YtoeobcmmafncmaaDoor

/-
  Words of 32 bits: rotations, walked.
-/
namespace Go.Proofs.YtoeobcmmafncmaaDoor
open Go.RowKit

theorem or_shift (v a m d : Nat) (h0 : v < 4294967296) (hm : 2 ^ (32 - a) = m) (hd : 2 ^ a = d) : bits BinOp.or IntKind.u32 ((v : Int) * (m : Nat) % 4294967296) ((v : Int) / (d : Nat)) = ((rotN v a : Nat) : Int) := by
  have e1 : ((v : Int) * (m : Nat) % 4294967296) = ((v * m % 4294967296 : Nat) : Int) := by simp
  have e2 : ((v : Int) / (d : Nat)) = ((v / d : Nat) : Int) := by simp
  rw [e1, e2, u32_or_nat _ _ (Nat.mod_lt _ (by decide)) (Nat.lt_of_le_of_lt (Nat.div_le_self _ _) h0)]
  unfold rotN
  rw [hm, hd]

def rotOk (k : Int) : Bool := k == -7 || k == -18 || k == -17 || k == -19 || k == -6 || k == -11 || k == -25 || k == -2 || k == -13 || k == -22

set_option maxHeartbeats 2000000 in
theorem rot_any (v : Nat) (k : Int) (w : World) (h1 : v < 4294967296) (hk : rotOk k = true) :
    Calls Tryd.prog 98 #[.int .u32 v, .int .i64 k] w (Same (.int .u32 (rotN v (-k).toNat)) w) := by
  simp only [rotOk, Bool.or_eq_true, beq_iff_eq] at hk
  rcases hk with ((((((((rfl | rfl) | rfl) | rfl) | rfl) | rfl) | rfl) | rfl) | rfl) | rfl
  · have hb : bits BinOp.and .u64 (IntKind.u64.wrap (-7)) 31 = 25 := by decide
    have ho := Lib.hid (or_shift v 7 33554432 128 h1 (by decide) (by decide))
    go_enter Tryd.func98, Tryd.ntmps98
    go_wp2
    go_ret
    exact ⟨congrArg (fun n => Ending.returned (.int .u32 n)) ho.out, rfl⟩
  · have hb : bits BinOp.and .u64 (IntKind.u64.wrap (-18)) 31 = 14 := by decide
    have ho := Lib.hid (or_shift v 18 16384 262144 h1 (by decide) (by decide))
    go_enter Tryd.func98, Tryd.ntmps98
    go_wp2
    go_ret
    exact ⟨congrArg (fun n => Ending.returned (.int .u32 n)) ho.out, rfl⟩
  · have hb : bits BinOp.and .u64 (IntKind.u64.wrap (-17)) 31 = 15 := by decide
    have ho := Lib.hid (or_shift v 17 32768 131072 h1 (by decide) (by decide))
    go_enter Tryd.func98, Tryd.ntmps98
    go_wp2
    go_ret
    exact ⟨congrArg (fun n => Ending.returned (.int .u32 n)) ho.out, rfl⟩
  · have hb : bits BinOp.and .u64 (IntKind.u64.wrap (-19)) 31 = 13 := by decide
    have ho := Lib.hid (or_shift v 19 8192 524288 h1 (by decide) (by decide))
    go_enter Tryd.func98, Tryd.ntmps98
    go_wp2
    go_ret
    exact ⟨congrArg (fun n => Ending.returned (.int .u32 n)) ho.out, rfl⟩
  · have hb : bits BinOp.and .u64 (IntKind.u64.wrap (-6)) 31 = 26 := by decide
    have ho := Lib.hid (or_shift v 6 67108864 64 h1 (by decide) (by decide))
    go_enter Tryd.func98, Tryd.ntmps98
    go_wp2
    go_ret
    exact ⟨congrArg (fun n => Ending.returned (.int .u32 n)) ho.out, rfl⟩
  · have hb : bits BinOp.and .u64 (IntKind.u64.wrap (-11)) 31 = 21 := by decide
    have ho := Lib.hid (or_shift v 11 2097152 2048 h1 (by decide) (by decide))
    go_enter Tryd.func98, Tryd.ntmps98
    go_wp2
    go_ret
    exact ⟨congrArg (fun n => Ending.returned (.int .u32 n)) ho.out, rfl⟩
  · have hb : bits BinOp.and .u64 (IntKind.u64.wrap (-25)) 31 = 7 := by decide
    have ho := Lib.hid (or_shift v 25 128 33554432 h1 (by decide) (by decide))
    go_enter Tryd.func98, Tryd.ntmps98
    go_wp2
    go_ret
    exact ⟨congrArg (fun n => Ending.returned (.int .u32 n)) ho.out, rfl⟩
  · have hb : bits BinOp.and .u64 (IntKind.u64.wrap (-2)) 31 = 30 := by decide
    have ho := Lib.hid (or_shift v 2 1073741824 4 h1 (by decide) (by decide))
    go_enter Tryd.func98, Tryd.ntmps98
    go_wp2
    go_ret
    exact ⟨congrArg (fun n => Ending.returned (.int .u32 n)) ho.out, rfl⟩
  · have hb : bits BinOp.and .u64 (IntKind.u64.wrap (-13)) 31 = 19 := by decide
    have ho := Lib.hid (or_shift v 13 524288 8192 h1 (by decide) (by decide))
    go_enter Tryd.func98, Tryd.ntmps98
    go_wp2
    go_ret
    exact ⟨congrArg (fun n => Ending.returned (.int .u32 n)) ho.out, rfl⟩
  · have hb : bits BinOp.and .u64 (IntKind.u64.wrap (-22)) 31 = 10 := by decide
    have ho := Lib.hid (or_shift v 22 1024 4194304 h1 (by decide) (by decide))
    go_enter Tryd.func98, Tryd.ntmps98
    go_wp2
    go_ret
    exact ⟨congrArg (fun n => Ending.returned (.int .u32 n)) ho.out, rfl⟩

end Go.Proofs.YtoeobcmmafncmaaDoor
