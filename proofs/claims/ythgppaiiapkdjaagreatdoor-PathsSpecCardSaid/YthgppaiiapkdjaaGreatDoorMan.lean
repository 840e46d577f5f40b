/-
  elgamal: times; what changes one cipher.
-/
import Derived.Test.YthgppaiiapkdjaaGreatDoorMam
import Derived.Deep.RegionHeld3
import Derived.Test.YthgppaiiapkdjaaGreatDoorMab
namespace Go.Proofs.YthgppaiiapkdjaaGreatDoor
open Go.RowKit

def inP (n : Int) : Prop := 0 ≤ n ∧ n < 2147483579
theorem timesL_inP (l : List Int) : inP (timesL l) := by
  rcases List.eq_nil_or_concat l with rfl | ⟨l, x, rfl⟩
  · exact (⟨by omega, by omega⟩ : inP 1)
  · rw [List.concat_eq_append, timesL_snoc]
    exact ⟨Int.emod_nonneg _ (by omega), Int.emod_lt_of_pos _ (by omega)⟩

set_option maxHeartbeats 2000000 in
theorem el_times (A : Option Addr) (n c : Nat) (l : List Int) (W : World) (hA : Rd W W.heap.size 1 A n (ints l)) (hn : n ≤ 1000) (hin : ∀ x ∈ l, inP x) :
    Calls Tryz.prog 53 #[.slice A n c] W (Same (.int .i64 (timesL l)) W) := by
  obtain rfl : l.length = n := by have := hA.1; rw [ints_length, Nat.mul_one] at this; exact this
  go_enter Tryz.func53, Tryz.ntmps53
  go_wp2_with fail
  go_loop [3, 8] (fun s i => ∃ k : Nat, k ≤ l.length ∧ i = .int .i64 k ∧ s = .int .i64 (timesL (l.take k))) (fun _ i => l.length - (intOf i).toNat)
  case atStart => exact ⟨0, Nat.zero_le _, rfl, rfl⟩
  case round =>
    obtain ⟨k, hkn, rfl, rfl⟩ := hrel
    by_cases hlt : k < l.length
    · obtain ⟨x, hx⟩ : ∃ x, Hid (l[k]? = some x) := ⟨_, Lib.hid (List.getElem?_eq_getElem hlt)⟩
      obtain ⟨b, off, rfl, hbb, c0⟩ := Int_at hA hlt hx.out
      have hs : Hid (timesL (l.take (k + 1)) = timesL (l.take k) * x % 2147483579) := by
        show _ = _
        obtain ⟨hk, rfl⟩ := List.getElem?_eq_some_iff.1 hx.out
        rw [List.take_succ_eq_append_getElem hk, timesL_snoc]
      obtain ⟨x1, x2⟩ := hin x (List.mem_of_getElem? hx.out)
      obtain ⟨r1, r2⟩ := timesL_inP (l.take k)
      obtain ⟨m1, m2⟩ := mul_rng r1 x1 r2 x2
      go_wp2_with fail
      exact ⟨⟨k + 1, by omega, by go_num, by rw [hs.out]⟩, by simp [intOf]; omega⟩
    · go_wp2_with fail
      go_ret
      exact ⟨ret_int (by rw [List.take_of_length_le (by omega)]), rfl⟩
/-- Of two numbers, in a slice just made. -/
theorem el_times2 (a b : Int) (W : World) (ha : inP a) (hb : inP b) :
    Calls Tryz.prog 53 #[.slice (some ⟨W.heap.size, 0, none⟩) 2 2] (W.alloc (.cells #[.int .i64 a, .int .i64 b] 3)) (Same (.int .i64 (timesL [a, b])) (W.alloc (.cells #[.int .i64 a, .int .i64 b] 3))) :=
  el_times _ 2 2 [a, b] _ (Rd.new W (ints [a, b]) _ 1 2 _ rfl rfl) (by omega) (by intro x hx; simp at hx; rcases hx with rfl | rfl <;> assumption)
theorem powV_inP (a n : Int) : inP (powV a n) := by
  unfold powV
  split
  · have h : powP a.toNat (expN n) < 2147483579 := powP_lt a.toNat (expN n)
    unfold inP; omega
  · exact ⟨by omega, by omega⟩
end Go.Proofs.YthgppaiiapkdjaaGreatDoor

/-
  elgamal: what changes one cipher.
-/
namespace Go.Proofs.YthgppaiiapkdjaaGreatDoor
open Go.RowKit

/-- A cipher's second number lies anew; what was made lies behind. -/
def Anew (s o : Nat) (a b : Int) (W : World) : Ending → World → Prop := fun e w' =>
  e = .returned (.tuple #[]) ∧ ∃ w1, Below W.heap.size W w1 ∧ w' = (w1.setCell ⟨s, o, none⟩ (.int .i64 a)).setCell ⟨s, o + 1, none⟩ (.int .i64 b)

theorem cell_far {w : World} {b1 b2 o1 o2 : Nat} {v u : Value} (h : w.cell? ⟨b1, o1, none⟩ = some v) (hne : o2 ≠ o1) : (w.setCell ⟨b2, o2, none⟩ u).cell? ⟨b1, o1, none⟩ = some v :=
  (World.cell?_setCell_other _ _ _ _ (by intro e; injection e with e1 e2; exact hne e2)).trans h

set_option maxRecDepth 100000 in
set_option maxHeartbeats 2000000 in
theorem more1 (W : World) (i : Int) (j kb rb s o : Nat) (key r a b : Int) (hi : i = 0 ∧ j = 0 ∨ i = 1 ∧ j = 1 ∨ i = 2 ∧ j = 2) (ha : inP a) (hb : inP b)
    (c1 : W.cell? ⟨kb, 0, none⟩ = some (.int .i64 key)) (c4 : W.cell? ⟨rb, j, none⟩ = some (.int .i64 r)) (c2 : W.cell? ⟨s, o, none⟩ = some (.int .i64 a)) (c3 : W.cell? ⟨s, o + 1, none⟩ = some (.int .i64 b))
    (f2 : W.frozen? ⟨s, o, none⟩ = false) (f3 : W.frozen? ⟨s, o + 1, none⟩ = false) (h1 : kb < W.heap.size) (h4 : rb < W.heap.size) (h2 : s < W.heap.size) :
    Calls Tryz.prog 52 #[.int .i64 i, .pointer (some ⟨s, o, none⟩), .pointer (some ⟨rb, 0, none⟩), .pointer (some ⟨kb, 0, none⟩)] W
      (Anew s o (timesL [a, powV 4 r]) (timesL [b, powV key r]) W) := by
  rcases hi with ⟨rfl, rfl⟩ | ⟨rfl, rfl⟩ | ⟨rfl, rfl⟩
  all_goals
    go_enter Tryz.func52, Tryz.ntmps52
    go_wp2_with fail
    refine wp_region_mask (fun w' => w'.cell? ⟨kb, 0, none⟩ = some (.int .i64 key) ∧ w'.cell? ⟨rb, _, none⟩ = some (.int .i64 r) ∧ w'.cell? ⟨s, o, none⟩ = some (.int .i64 a) ∧ w'.cell? ⟨s, o + 1, none⟩ = some (.int .i64 b)) 25 8 [1, 1, 1, 1, 1, 2, 1, 1, 2, 0, 0, 0, 1, 1, 1, 2, 2, 1, 1, 2, 0, 0, 0, 0, 0, 0, 0, 0, 0] (by kernel_rfl) (by kernel_rfl) (by exact (fun B => ⟨(Below.cell B h1).trans c1, (Below.cell B h4).trans c4, (Below.cell B h2).trans c2, (Below.cell B h2).trans c3⟩ : Below W.heap.size W _ → _) (by repeat (first | exact B2 | exact B1 | exact bRefl _ | refine bAl ?_ _ | refine bDr ?_))) ?_
    simp only [pickH, pickT]
    repeat (refine wpHeads_cons (v := ?_) (by rfl) ?_ ?_; rotate_left 1; focus (intro w hSw; (try simp only [cond_true, cond_false] at hSw); go_simp; try with_reducible rfl); try simp only [Act.put, List.setIfInBounds_toArray, List.set_cons_zero, List.set_cons_succ])
    refine wpHeads_nil ?_
    iterate 8 (refine wpTailS_cons (fun K hK => ?_); go_simp; (first | (go_at_call 53; (with_reducible refine (el_times2 b (powV key r) _ hb (powV_inP _ _)).mono ?_); rintro e w' ⟨rfl, rfl⟩) | (go_at_call 53; (with_reducible refine (el_times2 a (powV 4 r) _ ha (powV_inP _ _)).mono ?_); rintro e w' ⟨rfl, rfl⟩) | (go_at_call 54; (with_reducible refine (el_power 4 r _).mono ?_); rintro e w1 ⟨rfl, b1⟩; have B1 : Below W.heap.size W w1 := bCall (by repeat (first | exact bRefl _ | refine bAl ?_ _ | refine bDr ?_)) b1) | (go_at_call 54; (with_reducible refine (el_power key r _).mono ?_); rintro e w2 ⟨rfl, b2⟩; have B2 : Below W.heap.size W w2 := bCall (by repeat (first | exact B1 | exact bRefl _ | refine bAl ?_ _ | refine bDr ?_)) b2) | skip); refine hK.out _ _ (by exact (fun B => ⟨(Below.cell B h1).trans c1, (Below.cell B h4).trans c4, (Below.cell B h2).trans c2, (Below.cell B h2).trans c3⟩ : Below W.heap.size W _ → _) (by repeat (first | exact B2 | exact B1 | exact bRefl _ | refine bAl ?_ _ | refine bDr ?_))) (fun hHeld => ?_); clear hHeld hK K; try simp only [Act.put, List.setIfInBounds_toArray, List.set_cons_zero, List.set_cons_succ])
    refine wpTailS_zero ?_
    have B3 := bAl B2 (.cells #[.int .i64 b, .int .i64 (powV key r)] 3)
    have k2 := (Below.cell B3 h2).trans c2
    have z2 := (Below.frozen B3 h2).trans f2
    have k3 := (Below.cell B3 h2).trans c3
    have z3 := (Below.frozen B3 h2).trans f3
    generalize w2.alloc (.cells #[.int .i64 b, .int .i64 (powV key r)] 3) = w3 at *
    have k3' := cell_far (b2 := s) (u := .int .i64 (timesL [a, powV 4 r])) k3 (show o ≠ o + 1 by omega)
    go_wp2_with fail
    refine NoPanic.normal ?_
    go_wp2_with fail
    exact ⟨rfl, .tuple #[], by simp [results, Tryz.results52, go_sem], rfl, w3, B3, rfl⟩
end Go.Proofs.YthgppaiiapkdjaaGreatDoor
