/- The reference's registry: an entry; walked. -/
import Derived.Test.YtmbopkcmbiommaaGreatDoorRaq
import Derived.Test.YtmbopkcmbiommaaGreatDoorRak
import Derived.Test.YtmbopkcmbiommaaGreatDoorRbl
set_option maxRecDepth 1000000
set_option maxHeartbeats 16000000
namespace Go.Proofs.YtmbopkcmbiommaaGreatDoor
open Go Go.RowKit
theorem rg_id (n : Int) (W : World) : Calls Tryz.prog 128 #[.int .i64 n] W (Same (.bool (idB n)) W) := by
  unfold idB btw
  cases h1 : decide (0 ≤ n) <;> cases h2 : decide (n ≤ 1048576)
  all_goals
    go_enter Tryz.func128, Tryz.ntmps128
    go_wp2_with fail
    go_ret
    exact ⟨by simp_all, rfl⟩
theorem rg_span (a b : Int) (W : World) : Calls Tryz.prog 129 #[.int .i64 a, .int .i64 b] W (Same (.bool (spanB a b)) W) := by
  unfold spanB
  by_cases h1 : 0 ≤ a <;> by_cases h2 : a < b <;> by_cases h3 : b ≤ 2097152
  all_goals
    go_enter Tryz.func129, Tryz.ntmps129
    go_wp2_with fail
    go_ret
    exact ⟨by simp_all, rfl⟩
theorem rg_valid (x : Ent) (W : World) : Calls Tryz.prog 84 #[.agg x.cl.toArray] W (Ret (.bool x.right) W) := by
  obtain ⟨v, hv⟩ : ∃ v, Hid (x.right = v) := ⟨_, Lib.hid rfl⟩
  rw [hv.out]
  have hv1 : Hid ((idB x.no && (idB x.a && ((if x.kind = 1 then blw x.b 24 else if x.kind = 2 then decide (x.a ≠ x.b) && idB x.b else decide ((x.kind = 3 ∨ x.kind = 4) ∧ x.b = 0)) && (spanB x.from_ x.until_ && spanB x.known x.gone)))) = v) := Lib.hid hv.out
  clear hv
  have BT := Blk.new W 67 x.cl.toArray _ rfl
  have hb := bAl (bRefl W) (.cells x.cl.toArray 67)
  go_enter Tryz.func84, Tryz.ntmps84
  go_upto_region 1 with fail
  generalize W.alloc (.cells x.cl.toArray 67) = w1 at *
  have d0 : w1.cell? ⟨W.heap.size, 0, none⟩ = some (.int .i64 x.no) := BT.cell 0
  have d1 : w1.cell? ⟨W.heap.size, 1, none⟩ = some (.int .i64 x.kind) := BT.cell 1
  have d2 : w1.cell? ⟨W.heap.size, 2, none⟩ = some (.int .i64 x.a) := BT.cell 2
  have d3 : w1.cell? ⟨W.heap.size, 3, none⟩ = some (.int .i64 x.b) := BT.cell 3
  have d4 : w1.cell? ⟨W.heap.size, 4, none⟩ = some (.int .i64 x.from_) := BT.cell 4
  have d5 : w1.cell? ⟨W.heap.size, 5, none⟩ = some (.int .i64 x.until_) := BT.cell 5
  have d6 : w1.cell? ⟨W.heap.size, 6, none⟩ = some (.int .i64 x.known) := BT.cell 6
  have d7 : w1.cell? ⟨W.heap.size, 7, none⟩ = some (.int .i64 x.gone) := BT.cell 7
  clear BT
  obtain ⟨no, kind, a, b, fr, un, kn, go⟩ := x
  dsimp only at *
  have q1 := rg_id no
  have q2 := rg_id a
  have q3 := rg_span fr un
  have q4 := rg_span kn go
  have q5 := rg_id b
  generalize idB no = p1 at *
  generalize idB a = p2 at *
  generalize spanB fr un = p3 at *
  generalize spanB kn go = p4 at *
  cases p1
  · have hv2 : Hid (v = false) := Lib.hid (by rw [← hv1.out]; rfl)
    clear hv1
    go_wp2_with (first | (go_at_call 128; first | ((with_reducible refine (q1 _).mono ?_); rintro e w6 ⟨rfl, rfl⟩) | ((with_reducible refine (q2 _).mono ?_); rintro e w6 ⟨rfl, rfl⟩) | ((with_reducible refine (q5 _).mono ?_); rintro e w6 ⟨rfl, rfl⟩)) | (go_at_call 129; first | ((with_reducible refine (q3 _).mono ?_); rintro e w6 ⟨rfl, rfl⟩) | ((with_reducible refine (q4 _).mono ?_); rintro e w6 ⟨rfl, rfl⟩)))
    go_ret
    exact ⟨ret_bool hv2.out.symm, hb⟩
  cases p2
  · have hv2 : Hid (v = false) := Lib.hid (by rw [← hv1.out]; rfl)
    clear hv1
    go_wp2_with (first | (go_at_call 128; first | ((with_reducible refine (q1 _).mono ?_); rintro e w6 ⟨rfl, rfl⟩) | ((with_reducible refine (q2 _).mono ?_); rintro e w6 ⟨rfl, rfl⟩) | ((with_reducible refine (q5 _).mono ?_); rintro e w6 ⟨rfl, rfl⟩)) | (go_at_call 129; first | ((with_reducible refine (q3 _).mono ?_); rintro e w6 ⟨rfl, rfl⟩) | ((with_reducible refine (q4 _).mono ?_); rintro e w6 ⟨rfl, rfl⟩)))
    go_ret
    exact ⟨ret_bool hv2.out.symm, hb⟩
  cases p3
  · have hv2 : Hid (v = false) := Lib.hid (by rw [← hv1.out]; (cases (if kind = 1 then blw b 24 else if kind = 2 then decide (a ≠ b) && idB b else decide ((kind = 3 ∨ kind = 4) ∧ b = 0)) <;> rfl))
    clear hv1
    go_wp2_with (first | (go_at_call 128; first | ((with_reducible refine (q1 _).mono ?_); rintro e w6 ⟨rfl, rfl⟩) | ((with_reducible refine (q2 _).mono ?_); rintro e w6 ⟨rfl, rfl⟩) | ((with_reducible refine (q5 _).mono ?_); rintro e w6 ⟨rfl, rfl⟩)) | (go_at_call 129; first | ((with_reducible refine (q3 _).mono ?_); rintro e w6 ⟨rfl, rfl⟩) | ((with_reducible refine (q4 _).mono ?_); rintro e w6 ⟨rfl, rfl⟩)))
    go_ret
    exact ⟨ret_bool hv2.out.symm, hb⟩
  cases p4
  · have hv2 : Hid (v = false) := Lib.hid (by rw [← hv1.out]; (cases (if kind = 1 then blw b 24 else if kind = 2 then decide (a ≠ b) && idB b else decide ((kind = 3 ∨ kind = 4) ∧ b = 0)) <;> rfl))
    clear hv1
    go_wp2_with (first | (go_at_call 128; first | ((with_reducible refine (q1 _).mono ?_); rintro e w6 ⟨rfl, rfl⟩) | ((with_reducible refine (q2 _).mono ?_); rintro e w6 ⟨rfl, rfl⟩) | ((with_reducible refine (q5 _).mono ?_); rintro e w6 ⟨rfl, rfl⟩)) | (go_at_call 129; first | ((with_reducible refine (q3 _).mono ?_); rintro e w6 ⟨rfl, rfl⟩) | ((with_reducible refine (q4 _).mono ?_); rintro e w6 ⟨rfl, rfl⟩)))
    go_ret
    exact ⟨ret_bool hv2.out.symm, hb⟩
  have hv2 : Hid ((if kind = 1 then blw b 24 else if kind = 2 then decide (a ≠ b) && idB b else decide ((kind = 3 ∨ kind = 4) ∧ b = 0)) = v) := Lib.hid (by rw [← hv1.out]; cases (if kind = 1 then blw b 24 else if kind = 2 then decide (a ≠ b) && idB b else decide ((kind = 3 ∨ kind = 4) ∧ b = 0)) <;> rfl)
  clear hv1
  by_cases k1 : kind = 1
  · have g1 : (kind == 1) = true := by simp only [beq_iff_eq]; exact k1
    by_cases b0 : 0 ≤ b
    · by_cases b1 : b < 24
      · have hv3 : Hid (v = true) := Lib.hid (by rw [← hv2.out]; rw [if_pos k1]; unfold blw; rw [decide_eq_true b0, decide_eq_true b1]; rfl)
        clear hv2 k1
        go_wp2_with (first | (go_at_call 128; first | ((with_reducible refine (q1 _).mono ?_); rintro e w6 ⟨rfl, rfl⟩) | ((with_reducible refine (q2 _).mono ?_); rintro e w6 ⟨rfl, rfl⟩) | ((with_reducible refine (q5 _).mono ?_); rintro e w6 ⟨rfl, rfl⟩)) | (go_at_call 129; first | ((with_reducible refine (q3 _).mono ?_); rintro e w6 ⟨rfl, rfl⟩) | ((with_reducible refine (q4 _).mono ?_); rintro e w6 ⟨rfl, rfl⟩)))
        go_ret
        exact ⟨ret_bool hv3.out.symm, hb⟩
      · have hv3 : Hid (v = false) := Lib.hid (by rw [← hv2.out]; rw [if_pos k1]; unfold blw; rw [decide_eq_false b1, Bool.and_false])
        clear hv2 k1
        go_wp2_with (first | (go_at_call 128; first | ((with_reducible refine (q1 _).mono ?_); rintro e w6 ⟨rfl, rfl⟩) | ((with_reducible refine (q2 _).mono ?_); rintro e w6 ⟨rfl, rfl⟩) | ((with_reducible refine (q5 _).mono ?_); rintro e w6 ⟨rfl, rfl⟩)) | (go_at_call 129; first | ((with_reducible refine (q3 _).mono ?_); rintro e w6 ⟨rfl, rfl⟩) | ((with_reducible refine (q4 _).mono ?_); rintro e w6 ⟨rfl, rfl⟩)))
        go_ret
        exact ⟨ret_bool ((decide_eq_false (by omega)).trans hv3.out.symm), hb⟩
    · have hv3 : Hid (v = false) := Lib.hid (by rw [← hv2.out]; rw [if_pos k1]; unfold blw; rw [decide_eq_false b0, Bool.false_and])
      clear hv2 k1
      go_wp2_with (first | (go_at_call 128; first | ((with_reducible refine (q1 _).mono ?_); rintro e w6 ⟨rfl, rfl⟩) | ((with_reducible refine (q2 _).mono ?_); rintro e w6 ⟨rfl, rfl⟩) | ((with_reducible refine (q5 _).mono ?_); rintro e w6 ⟨rfl, rfl⟩)) | (go_at_call 129; first | ((with_reducible refine (q3 _).mono ?_); rintro e w6 ⟨rfl, rfl⟩) | ((with_reducible refine (q4 _).mono ?_); rintro e w6 ⟨rfl, rfl⟩)))
      go_ret
      exact ⟨ret_bool hv3.out.symm, hb⟩
  have g1 : (kind == 1) = false := by simp only [beq_eq_false_iff_ne]; exact k1
  by_cases k2 : kind = 2
  · have g2 : (kind == 2) = true := by simp only [beq_iff_eq]; exact k2
    generalize h5 : idB b = p5 at *
    cases p5
    · have hv3 : Hid (v = false) := Lib.hid (by rw [← hv2.out]; rw [if_neg k1, if_pos k2, Bool.and_false])
      clear hv2 h5 k1 k2
      go_wp2_with (first | (go_at_call 128; first | ((with_reducible refine (q1 _).mono ?_); rintro e w6 ⟨rfl, rfl⟩) | ((with_reducible refine (q2 _).mono ?_); rintro e w6 ⟨rfl, rfl⟩) | ((with_reducible refine (q5 _).mono ?_); rintro e w6 ⟨rfl, rfl⟩)) | (go_at_call 129; first | ((with_reducible refine (q3 _).mono ?_); rintro e w6 ⟨rfl, rfl⟩) | ((with_reducible refine (q4 _).mono ?_); rintro e w6 ⟨rfl, rfl⟩)))
      go_ret
      exact ⟨ret_bool hv3.out.symm, hb⟩
    by_cases e : b = a
    · have ge : (b != a) = false := by simp only [bne_eq_false_iff_eq]; exact e
      have hv3 : Hid (v = false) := Lib.hid (by rw [← hv2.out]; rw [if_neg k1, if_pos k2, decide_eq_false (fun h => h e.symm), Bool.false_and])
      clear hv2 h5 k1 k2 e
      go_wp2_with (first | (go_at_call 128; first | ((with_reducible refine (q1 _).mono ?_); rintro e w6 ⟨rfl, rfl⟩) | ((with_reducible refine (q2 _).mono ?_); rintro e w6 ⟨rfl, rfl⟩) | ((with_reducible refine (q5 _).mono ?_); rintro e w6 ⟨rfl, rfl⟩)) | (go_at_call 129; first | ((with_reducible refine (q3 _).mono ?_); rintro e w6 ⟨rfl, rfl⟩) | ((with_reducible refine (q4 _).mono ?_); rintro e w6 ⟨rfl, rfl⟩)))
      go_ret
      exact ⟨ret_bool hv3.out.symm, hb⟩
    · have ge : (b != a) = true := by simp only [bne_iff_ne, ne_eq]; exact e
      have hv3 : Hid (v = true) := Lib.hid (by rw [← hv2.out]; rw [if_neg k1, if_pos k2, decide_eq_true (p := a ≠ b) (fun h => e h.symm), Bool.true_and])
      clear hv2 h5 k1 k2 e
      go_wp2_with (first | (go_at_call 128; first | ((with_reducible refine (q1 _).mono ?_); rintro e w6 ⟨rfl, rfl⟩) | ((with_reducible refine (q2 _).mono ?_); rintro e w6 ⟨rfl, rfl⟩) | ((with_reducible refine (q5 _).mono ?_); rintro e w6 ⟨rfl, rfl⟩)) | (go_at_call 129; first | ((with_reducible refine (q3 _).mono ?_); rintro e w6 ⟨rfl, rfl⟩) | ((with_reducible refine (q4 _).mono ?_); rintro e w6 ⟨rfl, rfl⟩)))
      go_ret
      exact ⟨ret_bool hv3.out.symm, hb⟩
  have g2 : (kind == 2) = false := by simp only [beq_eq_false_iff_ne]; exact k2
  by_cases b0 : b = 0
  · have gb : (b == 0) = true := by simp only [beq_iff_eq]; exact b0
    by_cases k3 : kind = 3
    · have g3 : (kind == 3) = true := by simp only [beq_iff_eq]; exact k3
      have hv3 : Hid (v = true) := Lib.hid (by rw [← hv2.out]; rw [if_neg k1, if_neg k2, decide_eq_true (show (kind = 3 ∨ kind = 4) ∧ b = 0 from ⟨.inl k3, b0⟩)])
      clear hv2 b0 k1 k2 k3
      go_wp2_with (first | (go_at_call 128; first | ((with_reducible refine (q1 _).mono ?_); rintro e w6 ⟨rfl, rfl⟩) | ((with_reducible refine (q2 _).mono ?_); rintro e w6 ⟨rfl, rfl⟩) | ((with_reducible refine (q5 _).mono ?_); rintro e w6 ⟨rfl, rfl⟩)) | (go_at_call 129; first | ((with_reducible refine (q3 _).mono ?_); rintro e w6 ⟨rfl, rfl⟩) | ((with_reducible refine (q4 _).mono ?_); rintro e w6 ⟨rfl, rfl⟩)))
      go_ret
      exact ⟨ret_bool hv3.out.symm, hb⟩
    have g3 : (kind == 3) = false := by simp only [beq_eq_false_iff_ne]; exact k3
    by_cases k4 : kind = 4
    · have g4 : (kind == 4) = true := by simp only [beq_iff_eq]; exact k4
      have hv3 : Hid (v = true) := Lib.hid (by rw [← hv2.out]; rw [if_neg k1, if_neg k2, decide_eq_true (show (kind = 3 ∨ kind = 4) ∧ b = 0 from ⟨.inr k4, b0⟩)])
      clear hv2 b0 k1 k2 k3 k4
      go_wp2_with (first | (go_at_call 128; first | ((with_reducible refine (q1 _).mono ?_); rintro e w6 ⟨rfl, rfl⟩) | ((with_reducible refine (q2 _).mono ?_); rintro e w6 ⟨rfl, rfl⟩) | ((with_reducible refine (q5 _).mono ?_); rintro e w6 ⟨rfl, rfl⟩)) | (go_at_call 129; first | ((with_reducible refine (q3 _).mono ?_); rintro e w6 ⟨rfl, rfl⟩) | ((with_reducible refine (q4 _).mono ?_); rintro e w6 ⟨rfl, rfl⟩)))
      go_ret
      exact ⟨ret_bool hv3.out.symm, hb⟩
    have g4 : (kind == 4) = false := by simp only [beq_eq_false_iff_ne]; exact k4
    have hv3 : Hid (v = false) := Lib.hid (by rw [← hv2.out]; rw [if_neg k1, if_neg k2, decide_eq_false (by omega)])
    clear hv2 b0 k1 k2 k3 k4
    go_wp2_with (first | (go_at_call 128; first | ((with_reducible refine (q1 _).mono ?_); rintro e w6 ⟨rfl, rfl⟩) | ((with_reducible refine (q2 _).mono ?_); rintro e w6 ⟨rfl, rfl⟩) | ((with_reducible refine (q5 _).mono ?_); rintro e w6 ⟨rfl, rfl⟩)) | (go_at_call 129; first | ((with_reducible refine (q3 _).mono ?_); rintro e w6 ⟨rfl, rfl⟩) | ((with_reducible refine (q4 _).mono ?_); rintro e w6 ⟨rfl, rfl⟩)))
    go_ret
    exact ⟨ret_bool hv3.out.symm, hb⟩
  · have gb : (b == 0) = false := by simp only [beq_eq_false_iff_ne]; exact b0
    by_cases k3 : kind = 3
    · have g3 : (kind == 3) = true := by simp only [beq_iff_eq]; exact k3
      have hv3 : Hid (v = false) := Lib.hid (by rw [← hv2.out]; rw [if_neg k1, if_neg k2, decide_eq_false (by omega)])
      clear hv2 b0 k1 k2 k3
      go_wp2_with (first | (go_at_call 128; first | ((with_reducible refine (q1 _).mono ?_); rintro e w6 ⟨rfl, rfl⟩) | ((with_reducible refine (q2 _).mono ?_); rintro e w6 ⟨rfl, rfl⟩) | ((with_reducible refine (q5 _).mono ?_); rintro e w6 ⟨rfl, rfl⟩)) | (go_at_call 129; first | ((with_reducible refine (q3 _).mono ?_); rintro e w6 ⟨rfl, rfl⟩) | ((with_reducible refine (q4 _).mono ?_); rintro e w6 ⟨rfl, rfl⟩)))
      go_ret
      exact ⟨ret_bool hv3.out.symm, hb⟩
    have g3 : (kind == 3) = false := by simp only [beq_eq_false_iff_ne]; exact k3
    by_cases k4 : kind = 4
    · have g4 : (kind == 4) = true := by simp only [beq_iff_eq]; exact k4
      have hv3 : Hid (v = false) := Lib.hid (by rw [← hv2.out]; rw [if_neg k1, if_neg k2, decide_eq_false (by omega)])
      clear hv2 b0 k1 k2 k3 k4
      go_wp2_with (first | (go_at_call 128; first | ((with_reducible refine (q1 _).mono ?_); rintro e w6 ⟨rfl, rfl⟩) | ((with_reducible refine (q2 _).mono ?_); rintro e w6 ⟨rfl, rfl⟩) | ((with_reducible refine (q5 _).mono ?_); rintro e w6 ⟨rfl, rfl⟩)) | (go_at_call 129; first | ((with_reducible refine (q3 _).mono ?_); rintro e w6 ⟨rfl, rfl⟩) | ((with_reducible refine (q4 _).mono ?_); rintro e w6 ⟨rfl, rfl⟩)))
      go_ret
      exact ⟨ret_bool hv3.out.symm, hb⟩
    have g4 : (kind == 4) = false := by simp only [beq_eq_false_iff_ne]; exact k4
    have hv3 : Hid (v = false) := Lib.hid (by rw [← hv2.out]; rw [if_neg k1, if_neg k2, decide_eq_false (by omega)])
    clear hv2 b0 k1 k2 k3 k4
    go_wp2_with (first | (go_at_call 128; first | ((with_reducible refine (q1 _).mono ?_); rintro e w6 ⟨rfl, rfl⟩) | ((with_reducible refine (q2 _).mono ?_); rintro e w6 ⟨rfl, rfl⟩) | ((with_reducible refine (q5 _).mono ?_); rintro e w6 ⟨rfl, rfl⟩)) | (go_at_call 129; first | ((with_reducible refine (q3 _).mono ?_); rintro e w6 ⟨rfl, rfl⟩) | ((with_reducible refine (q4 _).mono ?_); rintro e w6 ⟨rfl, rfl⟩)))
    go_ret
    exact ⟨ret_bool hv3.out.symm, hb⟩
theorem ra_secret (n : Int) (W : World) : Calls Tryz.prog 48 #[.int .i64 n] W (Same (.bool (secretB n)) W) := by
  unfold secretB
  by_cases h1 : 1 ≤ n <;> by_cases h2 : n < 1073741789
  all_goals
    go_enter Tryz.func48, Tryz.ntmps48
    go_wp2_with fail
    go_ret
    exact ⟨by simp_all, rfl⟩
def prevN (l : List Ent) : Nat → Int
  | 0 => -1
  | k + 1 => match l[k]? with
    | some g => g.no
    | none => 0
theorem entsB_cons {b : Int} {x : Ent} {l : List Ent} (h : b < x.no) (hp : x.right = true) : entsB b (x :: l) = entsB x.no l := by
  show ((x.right && decide _) && _) = _
  rw [decide_eq_true h, hp]
  rfl
theorem entsB_bad {b : Int} {x : Ent} {l : List Ent} (h : ¬ b < x.no ∨ x.right = false) : entsB b (x :: l) = false := by
  show ((x.right && decide _) && _) = _
  rcases h with h | h
  · rw [decide_eq_false h, Bool.and_false]; rfl
  · rw [h]; rfl
theorem ent_no {x : Ent} (h : x.right = true) : 0 ≤ x.no := by
  unfold Ent.right idB btw at h
  simp only [Bool.and_eq_true, decide_eq_true_eq] at h
  exact h.1.1
theorem ra_ents (A : Option Addr) (c : Nat) (l : List Ent) (W : World) (hA : Rd W W.heap.size 8 A l.length (l.flatMap Ent.cl)) (hn : l.length ≤ 1000000) :
    Calls Tryz.prog 47 #[.slice A l.length c] W (Ret (.int .i64 (entsE l)) W) := by
  obtain ⟨v, hv⟩ : ∃ v, Hid (entsE l = v) := ⟨_, Lib.hid rfl⟩
  rw [hv.out]
  go_enter Tryz.func47, Tryz.ntmps47
  by_cases l1 : 1024 < l.length
  · have hv2 : Hid (v = 2) := Lib.hid (by rw [← hv.out]; unfold entsE; rw [if_pos l1])
    have e1 : (1024 : Int) < (l.length : Int) := by omega
    clear l1
    go_wp2_with fail
    go_ret
    exact ⟨ret_int hv2.out.symm, bRefl W⟩
  have e1 : ¬ (1024 : Int) < (l.length : Int) := by omega
  have hv1 : Hid ((if entsB (-1) l = true then 0 else 330) = v) := Lib.hid (by rw [← hv.out]; unfold entsE; rw [if_neg l1])
  clear l1 hv
  go_wp2_with fail
  clear e1
  go_loopw [3] (fun i wr => ∃ k : Nat, k ≤ l.length ∧ i = .int .i64 k ∧ Below W.heap.size W wr ∧ Hid (entsB (-1) l = entsB (prevN l k) (l.drop k) ∧ -1 ≤ prevN l k)) (fun i _ => l.length - (intOf i).toNat)
  case atStart => exact ⟨0, Nat.zero_le _, rfl, bRefl W, Lib.hid ⟨rfl, by show (-1 : Int) ≤ -1; omega⟩⟩
  case round =>
    obtain ⟨k, hkn, rfl, hb, hp⟩ := hrel
    by_cases hlt : k < l.length
    · obtain ⟨x, hx⟩ : ∃ y, Hid (l[k]? = some y) := ⟨_, Lib.hid (List.getElem?_eq_getElem hlt)⟩
      have hdrop : Hid (l.drop k = x :: l.drop (k + 1)) := Lib.hid (by
        obtain ⟨hk, e⟩ := List.getElem?_eq_some_iff.1 hx.out
        rw [List.drop_eq_getElem_cons hk, e])
      have hnext : Hid (prevN l (k + 1) = x.no) := Lib.hid (by show (match l[k]? with | some g => g.no | none => 0) = _; rw [hx.out])
      have hbz := hb.size
      obtain ⟨b1, o1, rfl, l1, hc⟩ := Cl_at (f := Ent.cl) (fun _ _ => rfl) (hA.below hb) hlt hx.out
      have e0 := hc 0 (by omega)
      simp only [Ent.cl, List.getElem?_cons_zero, Nat.add_zero] at e0
      obtain ⟨b9, o9, e9, l9, L1⟩ := el_load (f := Ent.cl) (fun _ _ => rfl) (hA.below hb) hlt hx.out Tryz.underlying67 rfl (by kernel_rfl) hbz
      injection e9 with e9
      injection e9 with e8 e9
      subst e8
      subst e9
      have i0 : (0 : Int) ≤ (k : Int) := by omega
      have i1 : (k : Int) < (l.length : Int) := by omega
      have hbad2 : Hid (¬ prevN l k < x.no ∨ x.right = false → v = 330) := Lib.hid (fun h => by
        rw [← hv1.out, hp.out.1, hdrop.out, entsB_bad h]
        rfl)
      have hgood2 : Hid (prevN l k < x.no → x.right = true → entsB (-1) l = entsB (prevN l (k + 1)) (l.drop (k + 1)) ∧ -1 ≤ prevN l (k + 1)) := Lib.hid (fun h h2 => ⟨by rw [hp.out.1, hdrop.out, entsB_cons h h2, hnext.out], by rw [hnext.out]; have := hp.out.2; omega⟩)
      have q : Hid (∀ w', Below wr.heap.size wr w' → Calls Tryz.prog 84 #[.agg x.cl.toArray] w' (Ret (.bool x.right) w')) := Lib.hid (fun w' _ => rg_valid x w')
      have hno := Lib.hid (fun h : x.right = true => ent_no h)
      have KS : Hid (∀ w', Below wr.heap.size wr w' → (Instr.loadAt 67 (.pointer (some ⟨b1, o1 + k * 8, none⟩))).run Tryz.prog w' = .ok (.agg x.cl.toArray) w' ∧ w'.cell? ⟨b1, o1 + k * 8, none⟩ = some (.int .i64 x.no)) := Lib.hid (fun w' h => ⟨L1 w' h, (h.cell (p := ⟨b1, o1 + k * 8, none⟩) (by show b1 < _; omega)).trans e0⟩)
      clear e0 hc L1
      generalize x.cl.toArray = X at *
      generalize x.right = ok at q hbad2 hgood2 hno
      cases ok
      · have hv2 := Lib.hid (hbad2.out (.inr rfl))
        clear hbad2 hgood2 hno
        go_upto_region 6 with fail
        refine wp_region_schN (g := 0) KS [(0, 1), (1, 1), (2, 1), (3, 2), (4, 0), (5, 1), (6, 1), (7, 1), (8, 1), (9, 1), (10, 1), (11, 1), (12, 1), (13, 1), (14, 1), (15, 1), (16, 1), (17, 1), (18, 1), (19, 1), (20, 1), (21, 1), (22, 1), (23, 1)] ?_
        simp only [pickS, List.getElem?_cons_zero, List.getElem?_cons_succ]
        refine wpSchedN_t ?_
        refine wpSchedN_t ?_
        refine wpSchedN_t ?_
        refine wpSchedN_r (v := ?vq1) (hv := ?hq1) ?_; case hq1 => (intro w hSw; (first | refine (exec_load rfl rfl hSw).trans ?_ | refine (exec_load rfl rfl hSw.1).trans ?_ | refine (exec_load rfl rfl hSw.2.1).trans ?_ | refine (exec_load rfl rfl hSw.2.2.1).trans ?_ | refine (exec_load rfl rfl hSw.2).trans ?_ | refine (exec_load rfl rfl hSw.2.2).trans ?_); with_reducible rfl)
        refine wpSchedN_force (fun K hK => ?_)
        go_simp; (first | (go_at_call 84; (with_reducible refine (q.out _ (bDr (bRefl _))).mono ?_); rintro e w6 ⟨rfl, b6⟩; have B6 : Below wr.heap.size wr w6 := bCall (bDr (bRefl _)) b6) | skip)
        refine shut_go hK KS ?_
        clear hK K
        refine wpSchedN_t ?_
        refine wpSchedN_t ?_
        refine wpSchedN_p ?_
        refine wpSchedN_p ?_
        refine wpSchedN_p ?_
        refine wpSchedN_p ?_
        refine wpSchedN_p ?_
        refine wpSchedN_p ?_
        refine wpSchedN_p ?_
        refine wpSchedN_p ?_
        refine wpSchedN_p ?_
        refine wpSchedN_p ?_
        refine wpSchedN_p ?_
        refine wpSchedN_p ?_
        refine wpSchedN_p ?_
        refine wpSchedN_p ?_
        refine wpSchedN_p ?_
        refine wpSchedN_p ?_
        refine wpSchedN_t ?_
        refine anyN_end ?_
        refine NoPanic.normal ?_
        have hb6 := hb.trans (B6.mono hbz)
        go_wp2_with fail
        go_ret
        exact ⟨ret_int hv2.out.symm, hb6⟩
      obtain _ | k' := k
      · have hP0 : prevN l 0 = -1 := rfl
        have KS0 : Hid (∀ w', Below wr.heap.size wr w' → (Instr.loadAt 67 (.pointer (some ⟨b1, o1, none⟩))).run Tryz.prog w' = .ok (.agg X) w') := Lib.hid (fun w' h => by have := (KS.out w' h).1; simpa only [Nat.zero_mul, Nat.add_zero] using this)
        have i6 : (0 : Int) < (l.length : Int) := by omega
        have hnx := Lib.hid (hgood2.out (by rw [hP0]; have := hno.out rfl; omega) rfl)
        clear KS hbad2 hgood2 hno
        go_upto_region 6 with fail
        refine wp_region_schN (g := 0) KS0 [(0, 1), (1, 1), (2, 1), (3, 2), (4, 0), (5, 1), (6, 1), (7, 1), (8, 1), (9, 1), (10, 1), (11, 1), (12, 1), (13, 1), (14, 1), (15, 1), (16, 1), (17, 1), (18, 1), (19, 1), (20, 1), (21, 1), (22, 1), (23, 1)] ?_
        simp only [pickS, List.getElem?_cons_zero, List.getElem?_cons_succ]
        refine wpSchedN_t ?_
        refine wpSchedN_t ?_
        refine wpSchedN_t ?_
        refine wpSchedN_r (v := ?vq2) (hv := ?hq2) ?_; case hq2 => (intro w hSw; (first | refine (exec_load rfl rfl hSw).trans ?_ | refine (exec_load rfl rfl hSw.1).trans ?_ | refine (exec_load rfl rfl hSw.2.1).trans ?_ | refine (exec_load rfl rfl hSw.2.2.1).trans ?_ | refine (exec_load rfl rfl hSw.2).trans ?_ | refine (exec_load rfl rfl hSw.2.2).trans ?_); with_reducible rfl)
        refine wpSchedN_force (fun K hK => ?_)
        go_simp; (first | (go_at_call 84; (with_reducible refine (q.out _ (bDr (bRefl _))).mono ?_); rintro e w6 ⟨rfl, b6⟩; have B6 : Below wr.heap.size wr w6 := bCall (bDr (bRefl _)) b6) | skip)
        refine shut_go hK KS0 ?_
        clear hK K
        refine wpSchedN_t ?_
        refine wpSchedN_t ?_
        refine wpSchedN_t ?_
        refine wpSchedN_t ?_
        refine wpSchedN_t ?_
        refine wpSchedN_p ?_
        refine wpSchedN_p ?_
        refine wpSchedN_p ?_
        refine wpSchedN_p ?_
        refine wpSchedN_p ?_
        refine wpSchedN_p ?_
        refine wpSchedN_p ?_
        refine wpSchedN_p ?_
        refine wpSchedN_p ?_
        refine wpSchedN_p ?_
        refine wpSchedN_p ?_
        refine wpSchedN_p ?_
        refine wpSchedN_t ?_
        refine wpSchedN_t ?_
        refine anyN_end ?_
        refine NoPanic.normal ?_
        have hb6 := hb.trans (B6.mono hbz)
        go_wp2_with fail
        exact ⟨⟨0 + 1, by omega, by go_num, hb6, Lib.hid hnx.out⟩, by simp [intOf]; omega⟩
      · obtain ⟨z, hz⟩ : ∃ y, Hid (l[k']? = some y) := ⟨_, Lib.hid (List.getElem?_eq_getElem (by omega))⟩
        have hPz : prevN l (k' + 1) = z.no := by show (match l[k']? with | some g => g.no | none => 0) = _; rw [hz.out]
        rw [hPz] at hbad2 hgood2
        obtain ⟨b3, o3, e3, l3, hc3⟩ := Cl_at (f := Ent.cl) (fun _ _ => rfl) (hA.below hb) (show k' < l.length by omega) hz.out
        injection e3 with e3
        injection e3 with e3 e4
        subst e3
        subst e4
        have c3 := hc3 0 (by omega)
        simp only [Ent.cl, List.getElem?_cons_zero, Nat.add_zero] at c3
        have i2 : (0 : Int) ≤ (k' : Int) := by omega
        have i3 : (k' : Int) < (l.length : Int) := by omega
        have i4 : IntKind.i64.wrap (k' : Int) = (k' : Int) := by rw [IntKind.wrap_i64]; omega
        have i5 : (0 : Int) ≤ (k' : Int) + 1 := by omega
        have i6 : (k' : Int) + 1 < (l.length : Int) := by omega
        have KT : Hid (∀ w', Below wr.heap.size wr w' → (Instr.loadAt 67 (.pointer (some ⟨b1, o1 + (k' + 1) * 8, none⟩))).run Tryz.prog w' = .ok (.agg X) w' ∧ w'.cell? ⟨b1, o1 + (k' + 1) * 8, none⟩ = some (.int .i64 x.no) ∧ w'.cell? ⟨b1, o1 + k' * 8, none⟩ = some (.int .i64 z.no)) := Lib.hid (fun w' h => ⟨(KS.out w' h).1, (KS.out w' h).2, (h.cell (p := ⟨b1, o1 + k' * 8, none⟩) (by show b1 < _; omega)).trans c3⟩)
        clear hc3 c3 hPz
        by_cases f10 : x.no ≤ z.no
        · have hv2 := Lib.hid (hbad2.out (.inl (by omega)))
          clear hbad2 hgood2 hno
          go_upto_region 6 with fail
          refine wp_region_schN (g := 0) KT [(0, 1), (1, 1), (2, 1), (3, 2), (4, 0), (5, 1), (6, 1), (7, 1), (8, 1), (9, 1), (10, 1), (11, 1), (12, 1), (13, 1), (14, 2), (15, 1), (16, 1), (17, 1), (18, 1), (19, 1), (20, 2), (21, 1), (22, 1), (23, 1)] ?_
          simp only [pickS, List.getElem?_cons_zero, List.getElem?_cons_succ]
          refine wpSchedN_t ?_
          refine wpSchedN_t ?_
          refine wpSchedN_t ?_
          refine wpSchedN_r (v := ?vq3) (hv := ?hq3) ?_; case hq3 => (intro w hSw; (first | refine (exec_load rfl rfl hSw).trans ?_ | refine (exec_load rfl rfl hSw.1).trans ?_ | refine (exec_load rfl rfl hSw.2.1).trans ?_ | refine (exec_load rfl rfl hSw.2.2.1).trans ?_ | refine (exec_load rfl rfl hSw.2).trans ?_ | refine (exec_load rfl rfl hSw.2.2).trans ?_); with_reducible rfl)
          refine wpSchedN_force (fun K hK => ?_)
          go_simp; (first | (go_at_call 84; (with_reducible refine (q.out _ (bDr (bRefl _))).mono ?_); rintro e w6 ⟨rfl, b6⟩; have B6 : Below wr.heap.size wr w6 := bCall (bDr (bRefl _)) b6) | skip)
          refine shut_go hK KT ?_
          clear hK K
          refine wpSchedN_t ?_
          refine wpSchedN_t ?_
          refine wpSchedN_t ?_
          refine wpSchedN_t ?_
          refine wpSchedN_t ?_
          refine wpSchedN_t ?_
          refine wpSchedN_t ?_
          refine wpSchedN_t ?_
          refine wpSchedN_t ?_
          refine wpSchedN_r ?_
          refine wpSchedN_t ?_
          refine wpSchedN_t ?_
          refine wpSchedN_t ?_
          refine wpSchedN_t ?_
          refine wpSchedN_t ?_
          refine wpSchedN_r ?_
          refine wpSchedN_t ?_
          refine wpSchedN_t ?_
          refine wpSchedN_t ?_
          refine anyN_end ?_
          refine NoPanic.normal ?_
          have hb6 := hb.trans (B6.mono hbz)
          go_wp2_with fail
          go_ret
          exact ⟨ret_int hv2.out.symm, hb6⟩
        have hnx := Lib.hid (hgood2.out (by omega) rfl)
        clear hbad2 hgood2 hno
        go_upto_region 6 with fail
        refine wp_region_schN (g := 0) KT [(0, 1), (1, 1), (2, 1), (3, 2), (4, 0), (5, 1), (6, 1), (7, 1), (8, 1), (9, 1), (10, 1), (11, 1), (12, 1), (13, 1), (14, 2), (15, 1), (16, 1), (17, 1), (18, 1), (19, 1), (20, 2), (21, 1), (22, 1), (23, 1)] ?_
        simp only [pickS, List.getElem?_cons_zero, List.getElem?_cons_succ]
        refine wpSchedN_t ?_
        refine wpSchedN_t ?_
        refine wpSchedN_t ?_
        refine wpSchedN_r (v := ?vq4) (hv := ?hq4) ?_; case hq4 => (intro w hSw; (first | refine (exec_load rfl rfl hSw).trans ?_ | refine (exec_load rfl rfl hSw.1).trans ?_ | refine (exec_load rfl rfl hSw.2.1).trans ?_ | refine (exec_load rfl rfl hSw.2.2.1).trans ?_ | refine (exec_load rfl rfl hSw.2).trans ?_ | refine (exec_load rfl rfl hSw.2.2).trans ?_); with_reducible rfl)
        refine wpSchedN_force (fun K hK => ?_)
        go_simp; (first | (go_at_call 84; (with_reducible refine (q.out _ (bDr (bRefl _))).mono ?_); rintro e w6 ⟨rfl, b6⟩; have B6 : Below wr.heap.size wr w6 := bCall (bDr (bRefl _)) b6) | skip)
        refine shut_go hK KT ?_
        clear hK K
        refine wpSchedN_t ?_
        refine wpSchedN_t ?_
        refine wpSchedN_t ?_
        refine wpSchedN_t ?_
        refine wpSchedN_t ?_
        refine wpSchedN_t ?_
        refine wpSchedN_t ?_
        refine wpSchedN_t ?_
        refine wpSchedN_t ?_
        refine wpSchedN_r ?_
        refine wpSchedN_t ?_
        refine wpSchedN_t ?_
        refine wpSchedN_t ?_
        refine wpSchedN_t ?_
        refine wpSchedN_t ?_
        refine wpSchedN_r ?_
        refine wpSchedN_t ?_
        refine wpSchedN_t ?_
        refine wpSchedN_t ?_
        refine anyN_end ?_
        refine NoPanic.normal ?_
        have hb6 := hb.trans (B6.mono hbz)
        go_wp2_with fail
        exact ⟨⟨k' + 1 + 1, by omega, by go_num, hb6, Lib.hid hnx.out⟩, by simp [intOf]; omega⟩
    · have hv2 : Hid (v = 0) := Lib.hid (by rw [← hv1.out, hp.out.1, List.drop_of_length_le (by omega)]; rfl)
      go_wp2_with fail
      go_ret
      exact ⟨ret_int hv2.out.symm, hb⟩
theorem ra_before (x y : Slp) (W : World) : Calls Tryz.prog 49 #[.agg x.cl.toArray, .agg y.cl.toArray] W (Ret (.bool (decide (x.run < y.run ∨ x.run = y.run ∧ x.leg < y.leg))) W) := by
  have B1 := (Blk.new W 71 x.cl.toArray _ rfl).alloc (.cells y.cl.toArray 71)
  have B2 := Blk.new (W.alloc (.cells x.cl.toArray 71)) 71 y.cl.toArray _ rfl
  have hb := bAl (bAl (bRefl W) (.cells x.cl.toArray 71)) (.cells y.cl.toArray 71)
  go_enter Tryz.func49, Tryz.ntmps49
  go_upto_region 1 with fail
  generalize hF : (W.alloc (.cells x.cl.toArray 71)).heap.size = F at *
  have hF' : W.heap.size + 1 = F := by rw [← hF]; simp
  rw [hF']
  generalize (W.alloc (.cells x.cl.toArray 71)).alloc (.cells y.cl.toArray 71) = w1 at *
  have c0 : w1.cell? ⟨W.heap.size, 0, none⟩ = some (.int .i64 x.run) := B1.cell 0
  have c1 : w1.cell? ⟨W.heap.size, 1, none⟩ = some (.int .i64 x.leg) := B1.cell 1
  have d0 : w1.cell? ⟨F, 0, none⟩ = some (.int .i64 y.run) := B2.cell 0
  have d1 : w1.cell? ⟨F, 1, none⟩ = some (.int .i64 y.leg) := B2.cell 1
  clear hF hF' B1 B2
  obtain ⟨r, g, _, _⟩ := x
  obtain ⟨r2, g2, _, _⟩ := y
  dsimp only at *
  by_cases f0 : r < r2
  · have hv : Hid (decide (r < r2 ∨ r = r2 ∧ g < g2) = true) := Lib.hid (decide_eq_true (.inl f0))
    rw [hv.out]
    go_wp2_with fail
    go_ret
    exact ⟨(by first | rfl | exact ret_bool (by simp; omega) | exact ret_bool (by have := f1.out; simp; omega) | exact ret_bool (by simp)), hb⟩
  by_cases f1 : r = r2
  · have g1 : (r == r2) = true := by simp only [beq_iff_eq]; exact f1
    by_cases f2 : g < g2
    · have hv : Hid (decide (r < r2 ∨ r = r2 ∧ g < g2) = true) := Lib.hid (decide_eq_true (.inr ⟨f1, f2⟩))
      rw [hv.out]
      replace f1 := Lib.hid f1
      go_wp2_with fail
      go_ret
      exact ⟨(by first | rfl | exact ret_bool (by simp; omega) | exact ret_bool (by have := f1.out; simp; omega) | exact ret_bool (by simp)), hb⟩
    · have hv : Hid (decide (r < r2 ∨ r = r2 ∧ g < g2) = false) := Lib.hid (decide_eq_false (by omega))
      rw [hv.out]
      replace f1 := Lib.hid f1
      go_wp2_with fail
      go_ret
      exact ⟨(by first | rfl | exact ret_bool (by simp; omega) | exact ret_bool (by have := f1.out; simp; omega) | exact ret_bool (by simp)), hb⟩
  · have g1 : (r == r2) = false := by simp only [beq_eq_false_iff_ne]; exact f1
    have hv : Hid (decide (r < r2 ∨ r = r2 ∧ g < g2) = false) := Lib.hid (decide_eq_false (by omega))
    rw [hv.out]
    replace f1 := Lib.hid f1
    go_wp2_with fail
    go_ret
    exact ⟨(by first | rfl | exact ret_bool (by simp; omega) | exact ret_bool (by have := f1.out; simp; omega) | exact ret_bool (by simp)), hb⟩
end Go.Proofs.YtmbopkcmbiommaaGreatDoor
