/-
  Custody: the small functions, walked.
-/
import Derived.Test.YtcadkfaaogclfaaCuP
namespace Go.Proofs.Ytcadkfaaogclfaa
open Go.RowKit

set_option maxHeartbeats 400000 in
theorem need_ok (e : Int) (w : World) :
    Calls Try.prog 21 #[.bool true, .int .i64 e] w (Same (.tuple #[]) w) := by
  go_enter Try.func21, Try.ntmps21
  go_wp2
  go_end0
  exact ⟨rfl, rfl⟩

set_option maxHeartbeats 400000 in
theorem need_no (e : Int) (w : World) :
    Calls Try.prog 21 #[.bool false, .int .i64 e] w (Pan 26 e w) := by
  go_enter Try.func21, Try.ntmps21
  go_wp2
  exact ⟨rfl, rfl, Below.refl _ _⟩

theorem spanB_lt {a b n : Int} (h : n < a) : spanB a b n = false := by unfold spanB; rw [decide_eq_false (by omega)]; rfl
theorem spanB_ge {a b n : Int} (h : a ≤ n) : spanB a b n = decide (n ≤ b) := by unfold spanB; rw [decide_eq_true h]; rfl

set_option maxHeartbeats 400000 in
theorem span_has (a b n : Int) (w : World) :
    Calls Try.prog 22 #[.agg #[.int .i64 a, .int .i64 b], .int .i64 n] w (Ret (.bool (spanB a b n)) w) := by
  go_enter Try.func22, Try.ntmps22
  go_wp2
  all_goals
    go_ret
    refine ⟨?_, (Below.refl _ _).alloc (Nat.le_refl _) _⟩
    first | (rw [spanB_lt (by omega)]; rfl) | (rw [spanB_ge (by omega)]; rfl)

theorem bitB_out {s k : Int} (h : k < 0 ∨ 16 ≤ k) : bitB s k = false := by unfold bitB; rw [decide_eq_false (by omega)]; rfl
theorem bitB_in {s k : Int} (h : 0 ≤ k) (h' : k < 16) : bitB s k = (bits BinOp.and IntKind.u16 (s / 2 ^ k.toNat) 1 == 1) := by unfold bitB; rw [decide_eq_true ⟨h, h'⟩]; rfl

set_option maxHeartbeats 400000 in
theorem set_has (s k : Int) (w : World) (_hs : 0 ≤ s) (_hs2 : s < 65536) :
    Calls Try.prog 25 #[.int .u16 s, .int .i64 k] w (Same (.bool (bitB s k)) w) := by
  go_enter Try.func25, Try.ntmps25
  go_wp2
  all_goals
    go_ret
    refine ⟨?_, rfl⟩
    first | (rw [bitB_out (by omega)]; rfl) | (rw [bitB_in (by omega) (by omega)]; rfl)

/-- The set of some kinds. -/
def setV (l : List Value) : Int := l.foldl (fun s v => bits .or .u16 s (IntKind.u16.wrap (2 ^ min (intOf v).toNat 16))) 0
theorem setV_snoc (l : List Value) (k : Nat) : setV (l ++ [.int .i64 k]) = bits .or .u16 (setV l) (IntKind.u16.wrap (2 ^ min k 16)) := by simp [setV, intOf]

def isNat : Value → Bool | .int .i64 q => decide (0 ≤ q) | _ => false
theorem isNat_out {v : Value} (h : isNat v = true) : ∃ k : Nat, v = .int .i64 k := by
  unfold isNat at h
  split at h
  · obtain ⟨k, rfl⟩ := Int.eq_ofNat_of_zero_le (of_decide_eq_true h)
    exact ⟨k, rfl⟩
  · cases h

set_option maxHeartbeats 400000 in
theorem kinds_any (A : Option Addr) (n c : Nat) (xs : List Value) (w : World) (hA : Rd w w.heap.size 1 A n xs) (hx : xs.all isNat = true) (hn : n ≤ 100) :
    Calls Try.prog 24 #[.slice A n c] w (Same (.int .u16 (setV xs)) w) := by
  have hl : Hid (xs.length = n) := by have := hA.1; rw [Nat.mul_one] at this; exact this
  go_enter Try.func24, Try.ntmps24
  go_wp2
  go_loop [2, 7] (fun s i => ∃ k : Nat, k ≤ n ∧ i = .int .i64 k ∧ s = .int .u16 (setV (xs.take k))) (fun _ i => n - (intOf i).toNat)
  case atStart => exact ⟨0, Nat.zero_le _, rfl, rfl⟩
  case round =>
    obtain ⟨k, hkn, rfl, rfl⟩ := hrel
    by_cases hlt : k < n
    · obtain ⟨b, off, rfl, hb, hcell⟩ := hA.2 (by omega)
      have hkl : k < xs.length := by rw [hl.out]; exact hlt
      obtain ⟨q, hq⟩ := isNat_out (List.all_eq_true.1 hx _ (List.getElem_mem hkl))
      have hc := hcell k (.int .i64 q) (by rw [List.getElem?_eq_getElem hkl, hq])
      have hs : Hid (setV (xs.take (k + 1)) = bits .or .u16 (setV (xs.take k)) (IntKind.u16.wrap (2 ^ min q 16))) := by
        show _ = _
        rw [← setV_snoc, List.take_succ_eq_append_getElem hkl, hq]
      clear hq hcell
      go_wp2
      exact ⟨⟨k + 1, by omega, by go_num, by rw [hs.out]⟩, by simp [intOf]; omega⟩
    · go_wp2
      go_ret
      refine ⟨?_, rfl⟩
      show Ending.returned (.int .u16 (setV (xs.take k))) = _
      rw [List.take_of_length_le (by rw [hl.out]; omega)]

theorem after_index (k : Int) (h0 : 0 ≤ k) (h8 : k ≤ 8) (w : World) :
    (Instr.index 59 (.agg #[.int .u16 (setV [.int .i64 1]), .int .u16 (setV [.int .i64 2, .int .i64 8]), .int .u16 (setV [.int .i64 2, .int .i64 3, .int .i64 4, .int .i64 5, .int .i64 6, .int .i64 8]), .int .u16 0, .int .u16 (setV [.int .i64 2, .int .i64 8]), .int .u16 0, .int .u16 (setV [.int .i64 5, .int .i64 7]), .int .u16 0, .int .u16 0]) (.int .i64 k)).run Try.prog w = .ok (.int .u16 (afterN k)) w := by
  have hk : k = 0 ∨ k = 1 ∨ k = 2 ∨ k = 3 ∨ k = 4 ∨ k = 5 ∨ k = 6 ∨ k = 7 ∨ k = 8 := by omega
  rcases hk with rfl | rfl | rfl | rfl | rfl | rfl | rfl | rfl | rfl
  all_goals (show Sem.run _ _ _ = _; kernel_rfl)

set_option maxHeartbeats 400000 in
theorem after_any (k : Int) (w : World) (h0 : 0 ≤ k) (h8 : k ≤ 8) :
    Calls Try.prog 29 #[.int .i64 k] w (Ret (.int .u16 (afterN k)) w) := by
  have hix := after_index k h0 h8
  go_enter Try.func29, Try.ntmps29
  go_wp2_with (go_at_call 24; refine (kinds_any _ _ _ _ _ (by exact Rd.new _ _ _ _ _ _ (by simp) rfl) (by rfl) (by omega)).mono ?_; rintro e w' ⟨rfl, rfl⟩)
  go_ret
  exact ⟨rfl, bAl (bAl (bAl (bAl (bAl (bRefl _) _) _) _) _) _⟩

end Go.Proofs.Ytcadkfaaogclfaa
