/-
  The small functions of the reference that the laws of paths ask: power, Valid, Check, few, FewJob, Few, Empty.
-/
import Derived.Test.YthgppaiiapkdjaaDoorMbf
namespace Go.Proofs.YthgppaiiapkdjaaDoor
open Go.RowKit

theorem ref_power (a0 n0 : Nat) (W : World) (ha : a0 < 2147483579) (hn : n0 < 2147483648) :
    Calls Tryd.prog 51 #[.int .i64 (a0 : Nat), .int .i64 (n0 : Nat)] W (Same (.int .i64 (powP a0 n0 : Nat)) W) := by
  go_enter Tryd.func51, Tryd.ntmps51
  go_wp2
  go_loop [0, 1, 5] (fun va vn vc => ∃ a n c : Nat, va = .int .i64 (a : Nat) ∧ vn = .int .i64 (n : Nat) ∧ vc = .int .i64 (c : Nat) ∧ a < 2147483579 ∧ n < 2147483648 ∧ c < 2147483579 ∧ Hid ((c * a ^ n) % Pn = powP a0 n0)) (fun _ vn _ => (intOf vn).toNat)
  case atStart => exact ⟨a0, n0, 1, rfl, rfl, rfl, ha, hn, by omega, by show _ = _; unfold powP; rw [Nat.one_mul]⟩
  case round =>
    obtain ⟨a, n, c, rfl, rfl, rfl, ha, hn, hc, hr⟩ := hrel
    by_cases h0 : 0 < n
    · have hm1 := mul_rngN ha ha
      have hm2 := mul_rngN hc ha
      have hs := square_step c a n
      rw [hr.out] at hs
      have e1 : ((a : Int) * a % 2147483579) = ((a * a % 2147483579 : Nat) : Int) := by simp
      have e2 : (n : Int) / 2 = ((n / 2 : Nat) : Int) := by simp
      have e3 : ((c : Int) * a % 2147483579) = ((c * a % 2147483579 : Nat) : Int) := by simp
      have E1 := Lib.hid e1
      have E2 := Lib.hid e2
      have E3 := Lib.hid e3
      have M1 : a * a % 2147483579 < 2147483579 := Nat.mod_lt _ (by decide)
      have M2 : c * a % 2147483579 < 2147483579 := Nat.mod_lt _ (by decide)
      by_cases hb : n % 2 = 1
      · rw [if_pos hb] at hs
        have Hs := Lib.hid hs.symm
        have t : ((n : Int) % 2 == 1) = true := by rw [beq_iff_eq]; omega
        clear e1 e2 e3 hs hb hr
        go_wp2
        rw [E1.out, E2.out, E3.out]
        exact ⟨⟨_, _, _, rfl, rfl, rfl, M1, by omega, M2, Hs⟩, by simp [intOf]; omega⟩
      · rw [if_neg hb] at hs
        have Hs := Lib.hid hs.symm
        have t : ((n : Int) % 2 == 1) = false := by rw [beq_eq_false_iff_ne]; omega
        clear e1 e2 e3 hs hb hr
        go_wp2
        rw [E1.out, E2.out]
        exact ⟨⟨_, _, _, rfl, rfl, rfl, M1, by omega, hc, Hs⟩, by simp [intOf]; omega⟩
    · obtain rfl : n = 0 := by omega
      have hv : Hid (c = powP a0 n0) := by
        show _ = _
        have := hr.out
        rw [Nat.pow_zero, Nat.mul_one, Nat.mod_eq_of_lt (show c < Pn from hc)] at this
        exact this
      go_wp2
      go_ret
      exact ⟨by rw [hv.out]; rfl, rfl⟩

theorem ref_valid (x : Int) (W : World) : Calls Tryd.prog 26 #[.int .i64 x] W (Same (.bool (validB x)) W) := by
  by_cases h1 : 1 ≤ x
  · by_cases h2 : x < 2147483579
    · obtain ⟨n, rfl⟩ := Int.eq_ofNat_of_zero_le (show 0 ≤ x by omega)
      have hQ : ((Qn : Nat) : Int) = 1073741789 := rfl
      have q := ref_power n Qn W (by omega) (by decide)
      rw [hQ] at q
      have hv : Hid (validB (n : Int) = (((powP n Qn : Nat) : Int) == 1)) := by
        show _ = _
        unfold validB validN
        rw [decide_eq_true h1, decide_eq_true h2, Int.toNat_natCast, Bool.true_and, Bool.true_and]
        generalize powP n Qn = m
        rw [Bool.eq_iff_iff, beq_iff_eq, beq_iff_eq]
        omega
      generalize powP n Qn = m at *
      clear hQ
      go_enter Tryd.func26, Tryd.ntmps26
      go_wp2_with fail
      (with_reducible refine q.mono ?_)
      rintro e w' ⟨rfl, rfl⟩
      go_wp2_with fail
      go_ret
      exact ⟨ret_bool hv.out.symm, rfl⟩
    · have hv := Lib.hid (validB_high (x := x) (by omega))
      go_enter Tryd.func26, Tryd.ntmps26
      go_wp2_with fail
      go_ret
      exact ⟨ret_bool hv.out.symm, rfl⟩
  · have hv := Lib.hid (validB_low (x := x) (by omega))
    go_enter Tryd.func26, Tryd.ntmps26
    go_wp2_with fail
    go_ret
    exact ⟨ret_bool hv.out.symm, rfl⟩

def fewB (n : Nat) : Bool := decide (n ≤ 8) || (decide (64 < n) && decide (n ≤ 80))
theorem ref_few (n : Nat) (W : World) : Calls Tryd.prog 20 #[.int .i64 (n : Nat)] W (Same (.bool (fewB n)) W) := by
  go_enter Tryd.func20, Tryd.ntmps20
  by_cases h1 : n ≤ 8
  · go_wp2_with fail
    go_ret
    refine ⟨ret_bool ?_, rfl⟩
    unfold fewB; rw [decide_eq_true h1]; rfl
  · have e1 : decide ((n : Int) ≤ 8) = false := by rw [decide_eq_false]; omega
    by_cases h2 : 64 < n
    · go_wp2_with fail
      go_ret
      refine ⟨ret_bool ?_, rfl⟩
      unfold fewB; rw [Bool.eq_iff_iff]; simp; omega
    · go_wp2_with fail
      go_ret
      refine ⟨ret_bool ?_, rfl⟩
      unfold fewB; rw [Bool.eq_iff_iff]; simp; omega

/-- Is a job bare? (the reference's) -/
theorem ref_empty (cs : Array Value) (v : Bool) (W : World) (h : Lens3 (fun i => cs[i]?) v) : Calls Tryd.prog 10 #[.agg cs] W (Ret (.bool v) W) := by
  obtain ⟨A1, n1, c1, A2, n2, c2, A3, n3, c3, h2, h3, h4, l1, l2, l3, he0⟩ := h
  have B0 := Blk.new W 45 cs _ rfl
  have hb := bAl (bRefl W) (.cells cs 45)
  have k2 := (B0.cell 2).trans h2
  have k3 := (B0.cell 3).trans h3
  have k4 := (B0.cell 4).trans h4
  have he := Lib.hid he0
  clear h2 h3 h4 he0
  go_enter Tryd.func10, Tryd.ntmps10
  go_wp2_with fail
  go_ret
  refine ⟨ret_bool ?_, hb⟩
  rw [he.out, Bool.eq_iff_iff]; simp; omega

set_option maxRecDepth 100000 in
set_option maxHeartbeats 4000000 in
/-- Is a letter in form? (the reference's) -/
theorem ref_check (x : Ltr) (W : World) : Calls Tryd.prog 12 #[.agg #[.int .i64 x.a0, .int .i64 x.b0, .int .i64 x.a1, .int .i64 x.b1, .int .i64 x.a2, .int .i64 x.b2]] W (Ret (.int .i64 x.err) W) := by
  have B0 : Blk (W.alloc (.cells x.cells 56)) W.heap.size 56 x.cells := Blk.new W _ _ _ rfl
  have hb := bAl (bRefl W) (.cells x.cells 56)
  obtain ⟨v, hv⟩ : ∃ v, v = x.err := ⟨_, rfl⟩
  rw [← hv]
  go_enter Tryd.func12, Tryd.ntmps12
  go_upto_region 1 with fail
  change Code.wp _ _ _ _ (W.alloc (.cells x.cells 56))
  generalize W.alloc (.cells x.cells 56) = w1 at *
  obtain ⟨k0, k1, k2, k3, k4, k5⟩ := Blk.six (v0 := .int .i64 x.a0) (v1 := .int .i64 x.b0) (v2 := .int .i64 x.a1) (v3 := .int .i64 x.b1) (v4 := .int .i64 x.a2) (v5 := .int .i64 x.b2) B0
  have Hv := Lib.hid hv
  clear hv B0
  go_wp2_with fail
  go_loop [3] (fun i => ∃ m : Int, i = .int .i64 m ∧ (m = 0 ∧ Hid True ∨ m = 1 ∧ Hid (x.goodAt 0 = true) ∨ m = 2 ∧ Hid (x.goodAt 0 = true ∧ x.goodAt 1 = true) ∨ m = 3 ∧ Hid (x.good = true))) (fun i => 3 - (intOf i).toNat)
  case atStart => exact ⟨0, rfl, .inl ⟨rfl, Lib.hid trivial⟩⟩
  case round =>
    obtain ⟨m, rfl, (⟨rfl, hq⟩ | ⟨rfl, hq⟩ | ⟨rfl, hq⟩ | ⟨rfl, hq⟩)⟩ := hrel
    · have q1 := ref_valid x.a0 w1
      have q2 := ref_valid x.b0 w1
      have hga : x.goodAt 0 = (validB x.a0 && validB x.b0) := rfl
      cases h1 : validB x.a0
      · have hbad : Hid (v = 100) := by show _ = _; rw [Hv.out]; unfold Ltr.err; rw [x.bad_of 0 (by rw [hga, h1]; rfl)]; rfl
        rw [h1] at q1
        clear h1 q2 hga
        go_wp2_with fail
        (with_reducible refine q1.mono ?_)
        rintro e w' ⟨rfl, rfl⟩
        go_wp2_with fail
        go_ret
        exact ⟨ret_int hbad.out.symm, hb⟩
      · cases h2 : validB x.b0
        · have hbad : Hid (v = 100) := by show _ = _; rw [Hv.out]; unfold Ltr.err; rw [x.bad_of 0 (by rw [hga, h1, h2]; rfl)]; rfl
          rw [h1] at q1
          rw [h2] at q2
          clear h1 h2 hga
          go_wp2_with fail
          (with_reducible refine q1.mono ?_)
          rintro e w' ⟨rfl, rfl⟩
          go_wp2_with fail
          (with_reducible refine q2.mono ?_)
          rintro e w' ⟨rfl, rfl⟩
          go_wp2_with fail
          go_ret
          exact ⟨ret_int hbad.out.symm, hb⟩
        · have hg : x.goodAt 0 = true := by rw [hga, h1, h2]; rfl
          have hn : Hid (x.goodAt 0 = true) := hg
          rw [h1] at q1
          rw [h2] at q2
          clear h1 h2 hga hg
          go_wp2_with fail
          (with_reducible refine q1.mono ?_)
          rintro e w' ⟨rfl, rfl⟩
          go_wp2_with fail
          (with_reducible refine q2.mono ?_)
          rintro e w' ⟨rfl, rfl⟩
          go_wp2_with fail
          exact ⟨⟨1, rfl, .inr (.inl ⟨rfl, hn⟩)⟩, by simp [intOf]⟩
    · have q1 := ref_valid x.a1 w1
      have q2 := ref_valid x.b1 w1
      have hga : x.goodAt 1 = (validB x.a1 && validB x.b1) := rfl
      cases h1 : validB x.a1
      · have hbad : Hid (v = 100) := by show _ = _; rw [Hv.out]; unfold Ltr.err; rw [x.bad_of 1 (by rw [hga, h1]; rfl)]; rfl
        rw [h1] at q1
        clear h1 q2 hga
        go_wp2_with fail
        (with_reducible refine q1.mono ?_)
        rintro e w' ⟨rfl, rfl⟩
        go_wp2_with fail
        go_ret
        exact ⟨ret_int hbad.out.symm, hb⟩
      · cases h2 : validB x.b1
        · have hbad : Hid (v = 100) := by show _ = _; rw [Hv.out]; unfold Ltr.err; rw [x.bad_of 1 (by rw [hga, h1, h2]; rfl)]; rfl
          rw [h1] at q1
          rw [h2] at q2
          clear h1 h2 hga
          go_wp2_with fail
          (with_reducible refine q1.mono ?_)
          rintro e w' ⟨rfl, rfl⟩
          go_wp2_with fail
          (with_reducible refine q2.mono ?_)
          rintro e w' ⟨rfl, rfl⟩
          go_wp2_with fail
          go_ret
          exact ⟨ret_int hbad.out.symm, hb⟩
        · have hg : x.goodAt 1 = true := by rw [hga, h1, h2]; rfl
          have hn : Hid (x.goodAt 0 = true ∧ x.goodAt 1 = true) := ⟨hq.out, hg⟩
          rw [h1] at q1
          rw [h2] at q2
          clear h1 h2 hga hg
          go_wp2_with fail
          (with_reducible refine q1.mono ?_)
          rintro e w' ⟨rfl, rfl⟩
          go_wp2_with fail
          (with_reducible refine q2.mono ?_)
          rintro e w' ⟨rfl, rfl⟩
          go_wp2_with fail
          exact ⟨⟨2, rfl, .inr (.inr (.inl ⟨rfl, hn⟩))⟩, by simp [intOf]⟩
    · have q1 := ref_valid x.a2 w1
      have q2 := ref_valid x.b2 w1
      have hga : x.goodAt 2 = (validB x.a2 && validB x.b2) := rfl
      cases h1 : validB x.a2
      · have hbad : Hid (v = 100) := by show _ = _; rw [Hv.out]; unfold Ltr.err; rw [x.bad_of 2 (by rw [hga, h1]; rfl)]; rfl
        rw [h1] at q1
        clear h1 q2 hga
        go_wp2_with fail
        (with_reducible refine q1.mono ?_)
        rintro e w' ⟨rfl, rfl⟩
        go_wp2_with fail
        go_ret
        exact ⟨ret_int hbad.out.symm, hb⟩
      · cases h2 : validB x.b2
        · have hbad : Hid (v = 100) := by show _ = _; rw [Hv.out]; unfold Ltr.err; rw [x.bad_of 2 (by rw [hga, h1, h2]; rfl)]; rfl
          rw [h1] at q1
          rw [h2] at q2
          clear h1 h2 hga
          go_wp2_with fail
          (with_reducible refine q1.mono ?_)
          rintro e w' ⟨rfl, rfl⟩
          go_wp2_with fail
          (with_reducible refine q2.mono ?_)
          rintro e w' ⟨rfl, rfl⟩
          go_wp2_with fail
          go_ret
          exact ⟨ret_int hbad.out.symm, hb⟩
        · have hg : x.goodAt 2 = true := by rw [hga, h1, h2]; rfl
          have hn : Hid (x.good = true) := by show _ = _; rw [x.good_eq, hq.out.1, hq.out.2, hg]; rfl
          rw [h1] at q1
          rw [h2] at q2
          clear h1 h2 hga hg
          go_wp2_with fail
          (with_reducible refine q1.mono ?_)
          rintro e w' ⟨rfl, rfl⟩
          go_wp2_with fail
          (with_reducible refine q2.mono ?_)
          rintro e w' ⟨rfl, rfl⟩
          go_wp2_with fail
          exact ⟨⟨3, rfl, .inr (.inr (.inr ⟨rfl, hn⟩))⟩, by simp [intOf]⟩
    · have hx : Hid (v = 0) := by show _ = _; rw [Hv.out]; unfold Ltr.err; rw [hq.out]; rfl
      go_wp2_with fail
      go_ret
      exact ⟨ret_int hx.out.symm, hb⟩
end Go.Proofs.YthgppaiiapkdjaaDoor
