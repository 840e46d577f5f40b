/-
  The codec in plain words: lists of numbers and texts, and their bytes. No program here.
-/
import Derived.Test.YtoeobcmmafncmaaDoorMah
namespace Go.Proofs.YtoeobcmmafncmaaDoor
open Go.RowKit

/-- A numeral. -/
def numF : Nat → Nat → List Nat
  | 0, u => [u % 256]
  | k + 1, u => if u < 128 then [u] else (u % 128 + 128) :: numF k (u / 128)
def numN (u : Nat) : List Nat := numF 10 u
/-- The unsigned form of an integer. -/
def unsN (n : Int) : Nat := if 0 ≤ n then (2 * n).toNat else (-2 * n - 1).toNat
theorem unsN_lt {n : Int} (h0 : -9223372036854775808 ≤ n) (h1 : n ≤ 9223372036854775807) : unsN n < 18446744073709551616 := by unfold unsN; split <;> omega
theorem numF_len : ∀ k u, 0 < (numF k u).length ∧ (numF k u).length ≤ k + 1
  | 0, _ => ⟨by simp [numF], by simp [numF]⟩
  | k + 1, u => by
    unfold numF
    split
    · simp
    · have := numF_len k (u / 128)
      simp; omega
theorem okB_numF : ∀ k u, okB (numF k u)
  | 0, u => by intro x hx; simp [numF] at hx; omega
  | k + 1, u => by
    unfold numF
    split
    · intro x hx; simp at hx; omega
    · intro x hx
      rw [List.mem_cons] at hx
      rcases hx with rfl | hx
      · omega
      · exact okB_numF k _ x hx

/-- A number or a text. -/
inductive It where
  | int (n : Int)
  | text (s : ByteArray)
def It.cells : It → List Value
  | .int n => [.int .i64 1, .int .i64 n, .string ⟨#[]⟩, .slice none 0 0]
  | .text s => [.int .i64 2, .int .i64 0, .string s, .slice none 0 0]
def It.agg (x : It) : Value := .agg x.cells.toArray
theorem It.cells_length (x : It) : x.cells.length = 4 := by cases x <;> rfl
def It.enc : It → List Nat
  | .int n => 1 :: numN (unsN n)
  | .text s => 2 :: (numN s.size ++ sb s)
/-- What fits. -/
def It.ok : It → Prop
  | .int n => -9223372036854775808 ≤ n ∧ n ≤ 9223372036854775807
  | .text s => s.size ≤ 1000000
def encL (l : List It) : List Nat := l.flatMap It.enc
/-- The encoding of a list. -/
def encN (l : List It) : List Nat := 3 :: (numN l.length ++ encL l)
theorem okB_enc (x : It) : okB x.enc := by
  intro y hy
  cases x with
  | int n =>
    rcases List.mem_cons.1 hy with rfl | hy
    · decide
    · exact okB_numF _ _ y hy
  | text s =>
    rcases List.mem_cons.1 hy with rfl | hy
    · decide
    · rcases List.mem_append.1 hy with hy | hy
      · exact okB_numF _ _ y hy
      · exact sb_ok s y hy
theorem okB_encN (l : List It) : okB (encN l) := by
  intro y hy
  rcases List.mem_cons.1 hy with rfl | hy
  · decide
  · rcases List.mem_append.1 hy with hy | hy
    · exact okB_numF _ _ y hy
    · obtain ⟨x, _, hx⟩ := List.mem_flatMap.1 hy
      exact okB_enc x y hx
theorem encL_snoc (l : List It) (x : It) : encL (l ++ [x]) = encL l ++ x.enc := by simp [encL]
theorem enc_len {x : It} (h : x.ok) : x.enc.length ≤ 1000012 := by
  cases x with
  | int n => have := (numF_len 10 (unsN n)).2; show (numN (unsN n)).length + 1 ≤ _; unfold numN; omega
  | text s =>
    have := (numF_len 10 s.size).2
    have h : s.size ≤ 1000000 := h
    show (numN s.size ++ sb s).length + 1 ≤ _
    rw [List.length_append, sb_len]
    unfold numN; omega
theorem encL_len : ∀ {l : List It}, (∀ x ∈ l, x.ok) → (encL l).length ≤ l.length * 1000012
  | [], _ => by simp [encL]
  | x :: l, h => by
    have h1 := enc_len (h x (List.mem_cons_self ..))
    have h2 := encL_len (l := l) (fun y hy => h y (List.mem_cons_of_mem _ hy))
    show (x.enc ++ encL l).length ≤ _
    rw [List.length_append, List.length_cons, Nat.succ_mul]
    omega
/-- Element k of a slice of such values. -/
theorem It_at {w : World} {B n k : Nat} {A : Option Addr} {l : List It} {x : It} (h : Rd w B 4 A n (l.flatMap It.cells)) (hn : k < n) (hx : l[k]? = some x) :
    ∃ b off, A = some ⟨b, off, none⟩ ∧ b < B ∧ ∀ j u, x.cells[j]? = some u → w.cell? ⟨b, off + k * 4 + j, none⟩ = some u := by
  obtain ⟨b, off, hA, hb, hc⟩ := h.2 (by omega)
  refine ⟨b, off, hA, hb, fun j u hu => ?_⟩
  have hj : j < 4 := by have := (List.getElem?_eq_some_iff.1 hu).1; rw [It.cells_length] at this; exact this
  have := hc (k * 4 + j) u (by rw [flat_at It.cells_length l k j x hx hj]; exact hu)
  rw [← Nat.add_assoc] at this
  exact this

end Go.Proofs.YtoeobcmmafncmaaDoor

/-
  The codec: numerals, walked.
-/
namespace Go.Proofs.YtoeobcmmafncmaaDoor
open Go.RowKit

theorem u8_or128 (x : Nat) (h : x < 256) : bits .or .u8 (x : Int) 128 = ((x % 128 + 128 : Nat) : Int) := by
  have := u8_or_nat x 128 h (by omega)
  refine this.trans ?_
  congr 1
  have hd : ∀ x : Fin 256, x.1 ||| 128 = x.1 % 128 + 128 := by decide +kernel
  exact hd ⟨x, h⟩

/-- What a call that appends bytes leaves. -/
def App (base : Nat) (v : Value) (n : Nat) (xs : List Value) (new : List Nat) (w : World) (r : Ending) (w' : World) : Prop :=
  ∃ v', r = .returned v' ∧ w'.ownsRow base 5 1 v' (n + new.length) (xs ++ byts new) ∧ Grew w w' v v'

set_option maxRecDepth 100000 in
set_option maxHeartbeats 2000000 in
theorem numeral_any (base : Nat) (v : Value) (n : Nat) (xs : List Value) (u : Nat) (W : World) (hown : W.ownsRow base 5 1 v n xs) (hbase : base ≤ W.heap.size) (hu : u < 18446744073709551616) (hn : n ≤ 70368744177000) :
    Calls Tryd.prog 93 #[v, .int .u64 u] W (App base v n xs (numN u) W) := by
  go_enter Tryd.func93, Tryd.ntmps93
  go_wp2_with fail
  go_loopw [0, 1] (fun b s wr => ∃ (k y : Nat) (done : List Nat), s = .int .u64 y ∧ wr.ownsRow base 5 1 b (n + done.length) (xs ++ byts done) ∧ Grew W wr v b ∧ base ≤ wr.heap.size ∧ done.length ≤ 10 ∧ y < 18446744073709551616 ∧ Hid (done ++ numF k y = numN u ∧ y < 128 ^ (k + 1) ∧ done.length + k = 10)) (fun _ s _ => (intOf s).toNat)
  case atStart => exact ⟨10, u, [], rfl, by simpa [byts] using hown, Grew.refl _ _, hbase, by simp, hu, ⟨rfl, Nat.lt_of_lt_of_le hu (by decide), rfl⟩⟩
  case round =>
    clear hown hbase hu
    obtain ⟨k, y, done, rfl, hown, hgr, hbase, hdl, hy, hk⟩ := hrel
    by_cases hlt : 128 ≤ y
    · obtain ⟨k, rfl⟩ : ∃ k', k = k' + 1 := by
        rcases k with _ | k
        · have := hk.out.2.1; simp at this; omega
        · exact ⟨k, rfl⟩
      have hor : Hid (bits BinOp.or IntKind.u8 ((y : Int) % 256) 128 = ((y % 128 + 128 : Nat) : Int)) := by
        have h := u8_or128 (y % 256) (Nat.mod_lt _ (by decide))
        rw [Nat.mod_mod_of_dvd y (by decide)] at h
        show _ = _
        rw [← h]; simp
      have hone : ∀ q ∈ [Value.int .u8 (bits BinOp.or IntKind.u8 ((y : Int) % 256) 128)], q.oneCell' = true := by intro q hq; simp at hq; subst hq; rfl
      have h63 : n + done.length + 1 ≤ maxLen := by unfold maxLen; omega
      have hby : (n + done.length + 1) * 1 ≤ 140737488355328 := by omega
      have hdl9 : done.length + 1 ≤ 10 := by have := hk.out.2.2; omega
      have hnx : Hid ((done ++ [y % 128 + 128]) ++ numF k (y / 128) = numN u ∧ y / 128 < 128 ^ (k + 1) ∧ (done ++ [y % 128 + 128]).length + k = 10) := by
        obtain ⟨h1, h2, h3⟩ := hk.out
        refine ⟨?_, ?_, by simp; omega⟩
        · rw [← h1]
          show _ = done ++ (if y < 128 then [y] else (y % 128 + 128) :: numF k (y / 128))
          rw [if_neg (by omega)]; simp
        · rw [Nat.pow_succ] at h2; omega
      go_wp2_with (at_builtin; refine wpList_append1G wr [.int .u8 (bits BinOp.or IntKind.u8 ((y : Int) % 256) 128)] (.tmp 9) (.tmp 13) 24 base 5 (.int .u8 0) 1 1 u0 (n + done.length) (xs ++ byts done) rfl rfl Tryd.underlying24 byte_info rfl (by omega) rfl hown rfl rfl hone h63 hby hbase ?_; intro v' w' hown4 hg4)
      go_roundw
      case rel =>
        rw [hor.out] at hown4
        exact ⟨k, y / 128, done ++ [y % 128 + 128], by go_num, by simpa [byts, Nat.add_assoc] using hown4, hgr.trans hg4, Nat.le_trans hbase hg4.size, by simp; omega, by omega, hnx⟩
      case measure => simp [intOf]; omega
    · have hone : ∀ q ∈ [Value.int .u8 (y : Int)], q.oneCell' = true := by intro q hq; simp at hq; subst hq; rfl
      have h63 : n + done.length + 1 ≤ maxLen := by unfold maxLen; omega
      have hby : (n + done.length + 1) * 1 ≤ 140737488355328 := by omega
      have hend : Hid (numN u = done ++ [y]) := by
        obtain ⟨h1, h2, h3⟩ := hk.out
        show _ = _
        rw [← h1]
        congr 1
        cases k with
        | zero => show [y % 256] = [y]; rw [Nat.mod_eq_of_lt (by omega)]
        | succ k => show (if y < 128 then [y] else _) = [y]; rw [if_pos (by omega)]
      go_wp2_with (at_builtin; refine wpList_append1G wr [.int .u8 (y : Int)] (.tmp 15) (.tmp 18) 24 base 5 (.int .u8 0) 1 1 u0 (n + done.length) (xs ++ byts done) rfl rfl Tryd.underlying24 byte_info rfl (by omega) rfl hown rfl rfl hone h63 hby hbase ?_; intro v' w' hown4 hg4)
      go_ret
      refine ⟨_, rfl, ?_, hgr.trans hg4⟩
      rw [hend.out]
      simpa [byts, Nat.add_assoc] using hown4

theorem xor_ones (a : Nat) (h : a < 18446744073709551616) : a ^^^ 18446744073709551615 = 18446744073709551615 - a := by
  have h1 : (BitVec.ofNat 64 a ^^^ BitVec.allOnes 64).toNat = (~~~ BitVec.ofNat 64 a).toNat := by rw [BitVec.xor_allOnes]
  rw [BitVec.toNat_xor, BitVec.toNat_not, BitVec.toNat_allOnes, BitVec.toNat_ofNat, Nat.mod_eq_of_lt h] at h1
  exact h1
theorem uns_pos (n : Int) (h0 : 0 ≤ n) (h1 : n ≤ 9223372036854775807) : bits BinOp.xor IntKind.u64 (n * 2) (n / 9223372036854775808) = ((unsN n : Nat) : Int) := by
  have e1 : n / 9223372036854775808 = ((0 : Nat) : Int) := by omega
  have e2 : n * 2 = (((2 * n).toNat : Nat) : Int) := by omega
  rw [e1, e2, u64_xor_nat _ _ (by omega) (by omega), Nat.xor_zero]
  unfold unsN; rw [if_pos h0]
theorem uns_neg (n : Int) (h0 : n < 0) (h1 : -9223372036854775808 ≤ n) : bits BinOp.xor IntKind.u64 (IntKind.u64.wrap (IntKind.u64.wrap n * 2)) (IntKind.u64.wrap (n / 9223372036854775808)) = ((unsN n : Nat) : Int) := by
  have e1 : IntKind.u64.wrap (n / 9223372036854775808) = ((18446744073709551615 : Nat) : Int) := by rw [IntKind.wrap_u64]; omega
  have e2 : IntKind.u64.wrap (IntKind.u64.wrap n * 2) = (((18446744073709551616 + 2 * n).toNat : Nat) : Int) := by rw [IntKind.wrap_u64, IntKind.wrap_u64]; omega
  rw [e1, e2, u64_xor_nat _ _ (by omega) (by omega), xor_ones _ (by omega)]
  unfold unsN; rw [if_neg (by omega)]
  omega
set_option maxHeartbeats 1000000 in
theorem unsigned_any (n : Int) (w : World) (h0 : -9223372036854775808 ≤ n) (h1 : n ≤ 9223372036854775807) :
    Calls Tryd.prog 94 #[.int .i64 n] w (Same (.int .u64 (unsN n : Nat)) w) := by
  by_cases hn : 0 ≤ n
  · have e := Lib.hid (uns_pos n hn h1)
    go_enter Tryd.func94, Tryd.ntmps94
    go_wp2
    rw [e.out]
    go_ret
    exact ⟨rfl, rfl⟩
  · have e := Lib.hid (uns_neg n (by omega) h0)
    go_enter Tryd.func94, Tryd.ntmps94
    go_wp2
    rw [e.out]
    go_ret
    exact ⟨rfl, rfl⟩

end Go.Proofs.YtoeobcmmafncmaaDoor
