/-
  The codec: numerals, walked.
-/
import Derived.Test.YthgppaiiapkdjaaGreatDoorMaf
namespace Go.Proofs.YthgppaiiapkdjaaGreatDoor
open Go.RowKit

theorem u8_or128 (x : Nat) (h : x < 256) : bits .or .u8 (x : Int) 128 = ((x % 128 + 128 : Nat) : Int) := by
  have := u8_or_nat x 128 h (by omega)
  refine this.trans ?_
  congr 1
  have hd : ∀ x : Fin 256, x.1 ||| 128 = x.1 % 128 + 128 := by decide +kernel
  exact hd ⟨x, h⟩

/-- What a call that appends bytes leaves. -/
def App (base : Nat) (v : Value) (n : Nat) (xs : List Value) (new : List Nat) (w : World) (r : Ending) (w' : World) : Prop :=
  ∃ v', r = .returned v' ∧ w'.ownsRow base 5 1 v' (n + new.length) (xs ++ byts new) ∧ Grew w w' v v'

set_option maxRecDepth 100000 in
set_option maxHeartbeats 2000000 in
theorem numeral_any (base : Nat) (v : Value) (n : Nat) (xs : List Value) (u : Nat) (W : World) (hown : W.ownsRow base 5 1 v n xs) (hbase : base ≤ W.heap.size) (hu : u < 18446744073709551616) (hn : n ≤ 70368744177000) :
    Calls Tryz.prog 111 #[v, .int .u64 u] W (App base v n xs (numN u) W) := by
  go_enter Tryz.func111, Tryz.ntmps111
  go_wp2_with fail
  go_loopw [0, 1] (fun b s wr => ∃ (k y : Nat) (done : List Nat), s = .int .u64 y ∧ wr.ownsRow base 5 1 b (n + done.length) (xs ++ byts done) ∧ Grew W wr v b ∧ base ≤ wr.heap.size ∧ done.length ≤ 10 ∧ y < 18446744073709551616 ∧ Hid (done ++ numF k y = numN u ∧ y < 128 ^ (k + 1) ∧ done.length + k = 10)) (fun _ s _ => (intOf s).toNat)
  case atStart => exact ⟨10, u, [], rfl, by simpa [byts] using hown, Grew.refl _ _, hbase, by simp, hu, ⟨rfl, Nat.lt_of_lt_of_le hu (by decide), rfl⟩⟩
  case round =>
    clear hown hbase hu
    obtain ⟨k, y, done, rfl, hown, hgr, hbase, hdl, hy, hk⟩ := hrel
    by_cases hlt : 128 ≤ y
    · obtain ⟨k, rfl⟩ : ∃ k', k = k' + 1 := by
        rcases k with _ | k
        · have := hk.out.2.1; simp at this; omega
        · exact ⟨k, rfl⟩
      have hor : Hid (bits BinOp.or IntKind.u8 ((y : Int) % 256) 128 = ((y % 128 + 128 : Nat) : Int)) := by
        have h := u8_or128 (y % 256) (Nat.mod_lt _ (by decide))
        rw [Nat.mod_mod_of_dvd y (by decide)] at h
        show _ = _
        rw [← h]; simp
      have hone : ∀ q ∈ [Value.int .u8 (bits BinOp.or IntKind.u8 ((y : Int) % 256) 128)], q.oneCell' = true := by intro q hq; simp at hq; subst hq; rfl
      have h63 : n + done.length + 1 ≤ maxLen := by unfold maxLen; omega
      have hby : (n + done.length + 1) * 1 ≤ 140737488355328 := by omega
      have hdl9 : done.length + 1 ≤ 10 := by have := hk.out.2.2; omega
      have hnx : Hid ((done ++ [y % 128 + 128]) ++ numF k (y / 128) = numN u ∧ y / 128 < 128 ^ (k + 1) ∧ (done ++ [y % 128 + 128]).length + k = 10) := by
        obtain ⟨h1, h2, h3⟩ := hk.out
        refine ⟨?_, ?_, by simp; omega⟩
        · rw [← h1]
          show _ = done ++ (if y < 128 then [y] else (y % 128 + 128) :: numF k (y / 128))
          rw [if_neg (by omega)]; simp
        · rw [Nat.pow_succ] at h2; omega
      go_wp2_with (at_builtin; refine wpList_append1G wr [.int .u8 (bits BinOp.or IntKind.u8 ((y : Int) % 256) 128)] (.tmp 9) (.tmp 13) 128 base 5 (.int .u8 0) 1 1 u0 (n + done.length) (xs ++ byts done) rfl rfl Tryz.underlying128 byte_info rfl (by omega) rfl hown rfl rfl hone h63 hby hbase ?_; intro v' w' hown4 hg4)
      go_roundw
      case rel =>
        rw [hor.out] at hown4
        exact ⟨k, y / 128, done ++ [y % 128 + 128], by go_num, by simpa [byts, Nat.add_assoc] using hown4, hgr.trans hg4, Nat.le_trans hbase hg4.size, by simp; omega, by omega, hnx⟩
      case measure => simp [intOf]; omega
    · have hone : ∀ q ∈ [Value.int .u8 (y : Int)], q.oneCell' = true := by intro q hq; simp at hq; subst hq; rfl
      have h63 : n + done.length + 1 ≤ maxLen := by unfold maxLen; omega
      have hby : (n + done.length + 1) * 1 ≤ 140737488355328 := by omega
      have hend : Hid (numN u = done ++ [y]) := by
        obtain ⟨h1, h2, h3⟩ := hk.out
        show _ = _
        rw [← h1]
        congr 1
        cases k with
        | zero => show [y % 256] = [y]; rw [Nat.mod_eq_of_lt (by omega)]
        | succ k => show (if y < 128 then [y] else _) = [y]; rw [if_pos (by omega)]
      go_wp2_with (at_builtin; refine wpList_append1G wr [.int .u8 (y : Int)] (.tmp 15) (.tmp 18) 128 base 5 (.int .u8 0) 1 1 u0 (n + done.length) (xs ++ byts done) rfl rfl Tryz.underlying128 byte_info rfl (by omega) rfl hown rfl rfl hone h63 hby hbase ?_; intro v' w' hown4 hg4)
      go_ret
      refine ⟨_, rfl, ?_, hgr.trans hg4⟩
      rw [hend.out]
      simpa [byts, Nat.add_assoc] using hown4

theorem xor_ones (a : Nat) (h : a < 18446744073709551616) : a ^^^ 18446744073709551615 = 18446744073709551615 - a := by
  have h1 : (BitVec.ofNat 64 a ^^^ BitVec.allOnes 64).toNat = (~~~ BitVec.ofNat 64 a).toNat := by rw [BitVec.xor_allOnes]
  rw [BitVec.toNat_xor, BitVec.toNat_not, BitVec.toNat_allOnes, BitVec.toNat_ofNat, Nat.mod_eq_of_lt h] at h1
  exact h1
theorem uns_pos (n : Int) (h0 : 0 ≤ n) (h1 : n ≤ 9223372036854775807) : bits BinOp.xor IntKind.u64 (n * 2) (n / 9223372036854775808) = ((unsN n : Nat) : Int) := by
  have e1 : n / 9223372036854775808 = ((0 : Nat) : Int) := by omega
  have e2 : n * 2 = (((2 * n).toNat : Nat) : Int) := by omega
  rw [e1, e2, u64_xor_nat _ _ (by omega) (by omega), Nat.xor_zero]
  unfold unsN; rw [if_pos h0]
theorem uns_neg (n : Int) (h0 : n < 0) (h1 : -9223372036854775808 ≤ n) : bits BinOp.xor IntKind.u64 (IntKind.u64.wrap (IntKind.u64.wrap n * 2)) (IntKind.u64.wrap (n / 9223372036854775808)) = ((unsN n : Nat) : Int) := by
  have e1 : IntKind.u64.wrap (n / 9223372036854775808) = ((18446744073709551615 : Nat) : Int) := by rw [IntKind.wrap_u64]; omega
  have e2 : IntKind.u64.wrap (IntKind.u64.wrap n * 2) = (((18446744073709551616 + 2 * n).toNat : Nat) : Int) := by rw [IntKind.wrap_u64, IntKind.wrap_u64]; omega
  rw [e1, e2, u64_xor_nat _ _ (by omega) (by omega), xor_ones _ (by omega)]
  unfold unsN; rw [if_neg (by omega)]
  omega
set_option maxHeartbeats 1000000 in
theorem unsigned_any (n : Int) (w : World) (h0 : -9223372036854775808 ≤ n) (h1 : n ≤ 9223372036854775807) :
    Calls Tryz.prog 112 #[.int .i64 n] w (Same (.int .u64 (unsN n : Nat)) w) := by
  by_cases hn : 0 ≤ n
  · have e := Lib.hid (uns_pos n hn h1)
    go_enter Tryz.func112, Tryz.ntmps112
    go_wp2
    rw [e.out]
    go_ret
    exact ⟨rfl, rfl⟩
  · have e := Lib.hid (uns_neg n (by omega) h0)
    go_enter Tryz.func112, Tryz.ntmps112
    go_wp2
    rw [e.out]
    go_ret
    exact ⟨rfl, rfl⟩

end Go.Proofs.YthgppaiiapkdjaaGreatDoor

/-
  The codec: formed and Check, walked.
-/
namespace Go.Proofs.YthgppaiiapkdjaaGreatDoor
open Go.RowKit

/-- A list as a value. -/
def listV (A : Option Addr) (n c : Nat) : Value := .agg #[.int .i64 3, .int .i64 0, .string ⟨#[]⟩, .slice A n c]

set_option maxRecDepth 100000 in
set_option maxHeartbeats 2000000 in
theorem formed_leaf (x : It) (w : World) : Calls Tryz.prog 109 #[x.agg] w (Ret (.tuple #[.int .i64 0, .bool true]) w) := by
  cases x with
  | int n =>
    show Calls _ _ #[.agg #[.int .i64 1, .int .i64 n, .string ⟨#[]⟩, .slice none 0 0]] w _
    go_enter Tryz.func109, Tryz.ntmps109
    go_wp2_with fail
    all_goals
      go_ret2
      exact ⟨rfl, bAl (bAl (bRefl _) _) _⟩
  | text s =>
    show Calls _ _ #[.agg #[.int .i64 2, .int .i64 0, .string s, .slice none 0 0]] w _
    go_enter Tryz.func109, Tryz.ntmps109
    go_wp2_with fail
    all_goals
      go_ret2
      exact ⟨rfl, bAl (bAl (bRefl _) _) _⟩

set_option maxRecDepth 100000 in
set_option maxHeartbeats 2000000 in
theorem formed_list (A : Option Addr) (n c : Nat) (l : List It) (W : World) (hA : Rd W W.heap.size 4 A n (l.flatMap It.cells)) (hn : n ≤ 1000000) :
    Calls Tryz.prog 109 #[listV A n c] W (Ret (.tuple #[.int .i64 1, .bool true]) W) := by
  have hl : Hid (l.length = n) := by have := hA.1; rw [flat_len It.cells_length] at this; show _ = _; omega
  unfold listV
  go_enter Tryz.func109, Tryz.ntmps109
  go_wp2_with fail
  go_loopw [2, 57] (fun d i wr => ∃ k : Nat, k ≤ n ∧ i = .int .i64 k ∧ d = .int .i64 0 ∧ Below W.heap.size W wr) (fun _ i _ => n - (intOf i).toNat)
  case atStart => exact ⟨0, Nat.zero_le _, rfl, rfl, bAl (bAl (bRefl W) _) _⟩
  case round =>
    obtain ⟨k, hk, rfl, rfl, hb⟩ := hrel
    by_cases hlt : k < n
    · obtain ⟨x, hx⟩ : ∃ x, Hid (l[k]? = some x) := ⟨_, Lib.hid (List.getElem?_eq_getElem (by rw [hl.out]; exact hlt))⟩
      obtain ⟨b, off, rfl, hbb, hc⟩ := It_at (hA.below hb) hlt hx.out
      clear hx
      cases x with
      | int m =>
        have c0 := hc 0 _ rfl
        have c1 := hc 1 _ rfl
        have c2 := hc 2 _ rfl
        have c3 := hc 3 _ rfl
        rw [Nat.add_zero] at c0
        clear hc
        go_wp2_with fail
        have q : ∀ w', Calls Tryz.prog 109 #[.agg #[.int .i64 1, .int .i64 m, .string ⟨#[]⟩, .slice none 0 0]] w' (Ret (.tuple #[.int .i64 0, .bool true]) w') := fun w' => formed_leaf (.int m) w'
        with_reducible refine (q _).mono ?_
        rintro e w2 ⟨rfl, b2⟩
        have hb2 := bCall (bAl hb _) b2
        clear hb b2 q
        go_wp2_with fail
        go_roundw
        case rel => exact ⟨k + 1, by omega, by go_num, rfl, hb2⟩
        case measure => simp [intOf]; omega
      | text s =>
        have c0 := hc 0 _ rfl
        have c1 := hc 1 _ rfl
        have c2 := hc 2 _ rfl
        have c3 := hc 3 _ rfl
        rw [Nat.add_zero] at c0
        clear hc
        go_wp2_with fail
        have q : ∀ w', Calls Tryz.prog 109 #[.agg #[.int .i64 2, .int .i64 0, .string s, .slice none 0 0]] w' (Ret (.tuple #[.int .i64 0, .bool true]) w') := fun w' => formed_leaf (.text s) w'
        with_reducible refine (q _).mono ?_
        rintro e w2 ⟨rfl, b2⟩
        have hb2 := bCall (bAl hb _) b2
        clear hb b2 q
        go_wp2_with fail
        go_roundw
        case rel => exact ⟨k + 1, by omega, by go_num, rfl, hb2⟩
        case measure => simp [intOf]; omega
    · go_wp2_with fail
      go_ret2
      exact ⟨rfl, hb⟩

set_option maxHeartbeats 2000000 in
theorem check_list (A : Option Addr) (n c : Nat) (l : List It) (W : World) (hA : Rd W W.heap.size 4 A n (l.flatMap It.cells)) (hn : n ≤ 1000000) :
    Calls Tryz.prog 98 #[listV A n c] W (Ret (.int .i64 0) W) := by
  have hA2 := hA.alloc (Nat.le_refl _) (.cells #[.int .i64 3, .int .i64 0, .string ⟨#[]⟩, .slice A n c] 140)
  have q := formed_list A n c l _ (hA2.more (by simp)) hn
  have hb := bAl (bRefl W) (.cells #[.int .i64 3, .int .i64 0, .string ⟨#[]⟩, .slice A n c] 140)
  unfold listV at q ⊢
  go_enter Tryz.func98, Tryz.ntmps98
  go_wp2_with fail
  with_reducible refine q.mono ?_
  rintro e w2 ⟨rfl, b2⟩
  have hb2 := bCall hb b2
  clear q hb b2
  go_wp2_with fail
  go_ret
  exact ⟨rfl, hb2⟩

end Go.Proofs.YthgppaiiapkdjaaGreatDoor
