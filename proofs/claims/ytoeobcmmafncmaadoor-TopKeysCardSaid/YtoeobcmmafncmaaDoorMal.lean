/-
  The group in plain words: what is an element, products, powers, numbers. No program here.
-/
import Derived.Test.YtoeobcmmafncmaaDoorMaa
import Derived.Test.YtoeobcmmafncmaaDoorMak
import Derived.Outline
import Derived.WalkMore
namespace Go.Proofs.YtoeobcmmafncmaaDoor
open Go.RowKit

/-- Is a number an element? -/
def validN (x : Nat) : Bool := powP x Qn == 1
def validB (x : Int) : Bool := decide (1 ≤ x) && (decide (x < 2147483579) && validN x.toNat)
theorem validB_iff (x : Int) : validB x = true ↔ 1 ≤ x ∧ x < 2147483579 ∧ powP x.toNat Qn = 1 := by
  unfold validB validN; simp
theorem validB_low {x : Int} (h : x < 1) : validB x = false := by unfold validB; rw [decide_eq_false (by omega)]; rfl
theorem validB_high {x : Int} (h : 2147483579 ≤ x) : validB x = false := by unfold validB; rw [decide_eq_false (p := x < 2147483579) (by omega)]; simp
theorem validB_mid {x : Nat} (h0 : 0 < x) (h1 : x < 2147483579) : validB (x : Int) = jac x Pn := by
  rw [jac_euler h0 h1]
  unfold validB validN
  rw [decide_eq_true (by omega), decide_eq_true (by omega), Int.toNat_natCast]
  simp only [Bool.true_and]
  by_cases h : powP x Qn = 1
  · rw [h]; rfl
  · rw [beq_eq_false_iff_ne.2 h, decide_eq_false h]

/-- What the loop over Jacobi's symbol holds. -/
def JacRel (x0 : Nat) (x n : Nat) (sq : Bool) : Prop := 0 < x ∧ n % 2 = 1 ∧ x < n ∧ n ≤ 2147483579 ∧ Nat.Coprime n x ∧ jac x0 Pn = (sq == jac x n)
theorem JacRel.start {x : Nat} (h0 : 0 < x) (h1 : x < 2147483579) : JacRel x x 2147483579 true :=
  ⟨h0, by decide, h1, Nat.le_refl _, Pn_prime h0 h1, by show jac x Pn = (true == jac x Pn); simp⟩
theorem beq_not (a b : Bool) : (a == !b) = !(a == b) := by cases a <;> cases b <;> rfl
theorem JacRel.half {x0 y n : Nat} {sq : Bool} (h : JacRel x0 (2 * y) n sq) : JacRel x0 y n (sq == !(n % 8 == 3 || n % 8 == 5)) := by
  obtain ⟨h1, h2, h3, h4, h5, h6⟩ := h
  refine ⟨by omega, h2, by omega, h4, coprime_half h5, ?_⟩
  rw [h6, jac_half h2 h5]
  generalize jac y n = a
  generalize (n % 8 == 3 || n % 8 == 5) = b
  cases sq <;> cases a <;> cases b <;> rfl
theorem JacRel.swap {x0 x n : Nat} {sq : Bool} (h : JacRel x0 x n sq) (hx : x % 2 = 1) (h1 : 1 < x) : JacRel x0 (n % x) x (sq == !(x % 4 == 3 && n % 4 == 3)) := by
  obtain ⟨_, h2, h3, h4, h5, h6⟩ := h
  have hc : Nat.Coprime x (n % x) := by
    have : Nat.gcd x (n % x) = 1 := by rw [Nat.gcd_comm, ← Nat.gcd_rec, Nat.gcd_comm]; exact h5
    exact this
  refine ⟨?_, hx, Nat.mod_lt _ (by omega), by omega, hc, ?_⟩
  · rcases Nat.eq_zero_or_pos (n % x) with h0 | h0
    · rw [h0] at hc
      have : x = 1 := by simpa [Nat.Coprime] using hc
      omega
    · exact h0
  · rw [h6, jac_swap h2 hx h5]
    generalize jac (n % x) x = a
    generalize (x % 4 == 3 && n % 4 == 3) = b
    cases sq <;> cases a <;> cases b <;> rfl
theorem JacRel.done {x0 n : Nat} {sq : Bool} (h : JacRel x0 1 n sq) : jac x0 Pn = sq := by
  rw [h.2.2.2.2.2, jac_one]; cases sq <;> rfl

end Go.Proofs.YtoeobcmmafncmaaDoor

/-
  The group: Valid, walked.
-/
namespace Go.Proofs.YtoeobcmmafncmaaDoor
open Go.RowKit

theorem eq_nt (a b : Bool) : (a == !(true || b)) = !a := by cases a <;> cases b <;> rfl
theorem eq_ft (a : Bool) : (a == !(false || true)) = !a := by cases a <;> rfl
theorem eq_ff (a : Bool) : (a == !(false || false)) = a := by cases a <;> rfl
theorem eq_tt2 (a : Bool) : (a == !(true && true)) = !a := by cases a <;> rfl
theorem eq_tf2 (a : Bool) : (a == !(true && false)) = a := by cases a <;> rfl
theorem eq_f2 (a b : Bool) : (a == !(false && b)) = a := by cases a <;> cases b <;> rfl

set_option maxHeartbeats 1000000 in
theorem group_valid (x : Int) (w : World) : Calls Tryd.prog 25 #[.int .i64 x] w (Same (.bool (validB x)) w) := by
  by_cases h0 : x < 1
  · have hv := Lib.hid (validB_low h0)
    go_enter Tryd.func25, Tryd.ntmps25
    go_wp2; go_step3; go_wp2
    rw [Exit.noGoto_ret]
    go_ret
    exact ⟨ret_bool hv.out.symm, rfl⟩
  by_cases h1 : 2147483579 ≤ x
  · have hv := Lib.hid (validB_high h1)
    go_enter Tryd.func25, Tryd.ntmps25
    go_wp2; go_step3; go_wp2
    rw [Exit.noGoto_ret]
    go_ret
    exact ⟨ret_bool hv.out.symm, rfl⟩
  obtain ⟨x0, rfl⟩ := Int.eq_ofNat_of_zero_le (show 0 ≤ x by omega)
  have hx0 : 0 < x0 := by omega
  have hx1 : x0 < 2147483579 := by omega
  have hv := Lib.hid (validB_mid hx0 hx1)
  have hs := Lib.hid (JacRel.start hx0 hx1)
  clear h0 h1
  go_enter Tryd.func25, Tryd.ntmps25
  go_wp2; go_step3; go_wp2; go_step3; go_wp2
  go_loop [0, 3, 4] (fun a b c => ∃ (x n : Nat) (sq : Bool), a = .int .i64 x ∧ b = .int .i64 n ∧ c = .bool sq ∧ Hid (JacRel x0 x n sq)) (fun _ b _ => (intOf b).toNat)
  case atStart => exact ⟨_, _, _, rfl, rfl, rfl, hs⟩
  case round =>
    clear hs
    obtain ⟨x, n, sq, rfl, rfl, rfl, hj⟩ := hrel
    have g := hj.out
    have hx0 := g.1
    have hxn := g.2.2.1
    have hnP := g.2.2.2.1
    clear g
    by_cases hx : 1 < x
    · have hx' : ((x : Int) == 1) = false := by simp; omega
      go_wp2
      go_loop [0, 4] (fun a c => ∃ (y : Nat) (sq : Bool), a = .int .i64 y ∧ c = .bool sq ∧ y ≤ x ∧ Hid (JacRel x0 y n sq)) (fun a _ => (intOf a).toNat)
      case atStart => exact ⟨_, _, rfl, rfl, Nat.le_refl _, hj⟩
      case round =>
        clear hj hx' hx0
        obtain ⟨y, sq2, rfl, rfl, hyx, hj⟩ := hrel
        have g := hj.out
        have hy0 := g.1
        have hyn := g.2.2.1
        clear g
        by_cases hev : y % 2 = 0
        · obtain ⟨z, rfl⟩ : ∃ z, y = 2 * z := ⟨y / 2, by omega⟩
          have hh := Lib.hid hj.out.half
          have he : (((2 * z : Nat) : Int) % 2 == 0) = true := by simp
          clear hj hev
          by_cases h3 : n % 8 = 3
          · have h3' : ((n : Int) % 8 == 3) = true := by simp; omega
            have h3n : (n % 8 == 3) = true := by simp [h3]
            rw [h3n, eq_nt] at hh
            clear h3 h3n
            go_wp2
            exact ⟨⟨z, _, rfl, rfl, by omega, hh⟩, by simp [intOf]; omega⟩
          · have h3' : ((n : Int) % 8 == 3) = false := by simp; omega
            have h3n : (n % 8 == 3) = false := by simp [h3]
            rw [h3n] at hh
            clear h3 h3n
            by_cases h5 : n % 8 = 5
            · have h5' : ((n : Int) % 8 == 5) = true := by simp; omega
              have h5n : (n % 8 == 5) = true := by simp [h5]
              rw [h5n, eq_ft] at hh
              clear h5 h5n
              go_wp2
              exact ⟨⟨z, _, rfl, rfl, by omega, hh⟩, by simp [intOf]; omega⟩
            · have h5' : ((n : Int) % 8 == 5) = false := by simp; omega
              have h5n : (n % 8 == 5) = false := by simp [h5]
              rw [h5n, eq_ff] at hh
              clear h5 h5n
              go_wp2
              exact ⟨⟨z, _, rfl, rfl, by omega, hh⟩, by simp [intOf]; omega⟩
        · have hev' : y % 2 = 1 := by omega
          have he : (((y : Nat) : Int) % 2 == 0) = false := by simp; omega
          clear hev
          by_cases hy1 : y = 1
          · subst hy1
            have hd := Lib.hid hj.out.done
            go_wp2
            try rw [Exit.noGoto_ret]
            go_ret
            exact ⟨ret_bool (by rw [hv.out, hd.out]), rfl⟩
          · have hy2 : 1 < y := by omega
            have hh := Lib.hid (hj.out.swap hev' hy2)
            have hy3 : ((y : Int) == 1) = false := by simp; omega
            clear hj hy1
            by_cases h3 : y % 4 = 3
            · have h3' : ((y : Int) % 4 == 3) = true := by simp; omega
              have h3n : (y % 4 == 3) = true := by simp [h3]
              rw [h3n] at hh
              by_cases h4 : n % 4 = 3
              · have h4' : ((n : Int) % 4 == 3) = true := by simp; omega
                have h4n : (n % 4 == 3) = true := by simp [h4]
                rw [h4n, eq_tt2] at hh
                clear h3 h4 h3n h4n
                go_wp2
                exact ⟨⟨n % y, y, _, by go_num, rfl, rfl, hh⟩, by simp [intOf]; omega⟩
              · have h4' : ((n : Int) % 4 == 3) = false := by simp; omega
                have h4n : (n % 4 == 3) = false := by simp [h4]
                rw [h4n, eq_tf2] at hh
                clear h3 h4 h3n h4n
                go_wp2
                exact ⟨⟨n % y, y, _, by go_num, rfl, rfl, hh⟩, by simp [intOf]; omega⟩
            · have h3' : ((y : Int) % 4 == 3) = false := by simp; omega
              have h3n : (y % 4 == 3) = false := by simp [h3]
              rw [h3n, eq_f2] at hh
              clear h3 h3n
              go_wp2
              exact ⟨⟨n % y, y, _, by go_num, rfl, rfl, hh⟩, by simp [intOf]; omega⟩
    · obtain rfl : x = 1 := by omega
      have hd := Lib.hid hj.out.done
      go_wp2
      go_ret
      exact ⟨ret_bool (by rw [hv.out, hd.out]), rfl⟩

end Go.Proofs.YtoeobcmmafncmaaDoor
