/-
  Custody: the reference's small functions, Status and Late, walked.
-/
import Derived.Test.YtcadkfaaogclfaaCuR
namespace Go.Proofs.Ytcadkfaaogclfaa
open Go.RowKit

set_option maxHeartbeats 400000 in
theorem ref_few (A : Option Addr) (n c : Nat) (w : World) (hn : n ≤ 9223372036854775807) :
    Calls Try.prog 9 #[.slice A n c] w (Same (.bool (decide (n ≤ 200 ∨ 4096 < n))) w) := by
  go_enter Try.func9, Try.ntmps9
  go_wp2
  all_goals
    go_ret
    refine ⟨ret_bool ?_, rfl⟩
    rw [Bool.eq_iff_iff]
    simp at *
    omega

set_option maxHeartbeats 400000 in
theorem ref_settles (k : Int) (w : World) : Calls Try.prog 26 #[.int .i64 k] w (Same (.bool (settlesB k)) w) := by
  go_enter Try.func26, Try.ntmps26
  go_wp2
  all_goals
    go_ret
    refine ⟨ret_bool ?_, rfl⟩
    unfold settlesB
    simp_all

set_option maxHeartbeats 400000 in
theorem same_ints (A B : Option Addr) (n m c d : Nat) (xs ys : List Int) (w : World) (hA : Rd w w.heap.size 1 A n (ints xs)) (hB : Rd w w.heap.size 1 B m (ints ys)) (hn : n ≤ 4096) (hm : m ≤ 9223372036854775807) :
    Calls Try.prog 16 #[.slice A n c, .slice B m d] w (Ret (.bool (decide (xs = ys))) w) := by
  have hl : Hid (xs.length = n) := by have := hA.1; rw [ints_length, Nat.mul_one] at this; exact this
  have hk : Hid (ys.length = m) := by have := hB.1; rw [ints_length, Nat.mul_one] at this; exact this
  by_cases hnm : n = m
  · subst hnm
    go_enter Try.func16, Try.ntmps16
    go_wp2
    go_loopw [5] (fun i wr => ∃ k : Nat, k ≤ n ∧ i = .int .i64 k ∧ Below w.heap.size w wr ∧ Hid (xs.take k = ys.take k)) (fun i _ => n - (intOf i).toNat)
    case atStart => exact ⟨0, Nat.zero_le _, rfl, bRefl _, Lib.hid rfl⟩
    case round =>
      obtain ⟨k, hkn, rfl, hb, he⟩ := hrel
      by_cases hlt : k < n
      · have h1 : k < xs.length := by rw [hl.out]; exact hlt
        have h2 : k < ys.length := by rw [hk.out]; exact hlt
        have hx : ∃ x, Hid (xs[k] = x) := ⟨_, Lib.hid rfl⟩
        have hy : ∃ y, Hid (ys[k] = y) := ⟨_, Lib.hid rfl⟩
        obtain ⟨x, hx⟩ := hx
        obtain ⟨y, hy⟩ := hy
        obtain ⟨b, off, rfl, hbb, c0⟩ := Int_at (hA.below hb) hlt (x := x) (by rw [List.getElem?_eq_getElem h1, hx.out])
        obtain ⟨b', off', rfl, hbb', c1⟩ := Int_at (hB.below hb) hlt (x := y) (by rw [List.getElem?_eq_getElem h2, hy.out])
        by_cases hxy : x = y
        · have hs : Hid (xs.take (k + 1) = ys.take (k + 1)) := by
            show _ = _
            rw [List.take_succ_eq_append_getElem h1, List.take_succ_eq_append_getElem h2, he.out, hx.out, hy.out, hxy]
          subst hxy
          go_wp2
          go_quiet (fail)
          go_wp2
          go_roundw
          case rel => exact ⟨k + 1, by omega, by go_num, ⟨hb.os, hb.tape, hb.output, hb.size, hb.block⟩, hs⟩
          case measure => simp [intOf]; omega
        · have hs : Hid (xs ≠ ys) := by
            intro e
            subst e
            exact hxy (by rw [← hx.out, ← hy.out])
          have hne : (x != y) = true := by simpa using hxy
          clear hxy
          go_wp2
          go_quiet (fail)
          go_wp2
          go_ret
          exact ⟨ret_bool (by rw [decide_eq_false hs.out]), ⟨hb.os, hb.tape, hb.output, hb.size, hb.block⟩⟩
      · go_wp2
        go_ret
        refine ⟨ret_bool ?_, hb⟩
        have h1 := he.out
        rw [List.take_of_length_le (by rw [hl.out]; omega), List.take_of_length_le (by rw [hk.out]; omega)] at h1
        rw [decide_eq_true h1]
  · have hne : ((n : Int) != (m : Int)) = true := by simp; omega
    have hs : Hid (xs ≠ ys) := by
      intro e
      subst e
      exact hnm (by rw [← hl.out, ← hk.out])
    clear hnm
    go_enter Try.func16, Try.ntmps16
    go_wp2
    go_ret
    exact ⟨ret_bool (by rw [decide_eq_false hs.out]), bRefl _⟩

end Go.Proofs.Ytcadkfaaogclfaa
