/-
  CustodySpec is proved: for every input the law returns true and leaves its arguments as they were. No condition.
-/
import Derived.Test.YtcadkfaaogclfaaCuW
import Derived.Test.YtcadkfaaogclfaaCuOpen
namespace Go.Proofs.Ytcadkfaaogclfaa
open Go.ChangeShapes Go.WideShapes Go.ChangeAt Go.RowKit

theorem lateL_len (l : List Ev) (by_ : List Int) : (lateL l by_).length ≤ 4096 := by
  unfold lateL
  split
  · split
    · split
      · have := lateUpto_le l by_ by_.length; omega
      · simp
    · simp
  · simp

set_option maxRecDepth 100000 in
set_option maxHeartbeats 4000000 in
theorem spec_walk (A B : Option Addr) (c d : Nat) (t : Int) (l : List Ev) (by_ : List Int) (W : World) (hA : Rd W W.heap.size 4 A l.length (l.flatMap Ev.cells)) (hB : Rd W W.heap.size 1 B by_.length (ints by_))
    (hn : l.length ≤ 9223372036854775807) (hm : by_.length ≤ 9223372036854775807) :
    Calls Try.prog 3 #[.slice A l.length c, .int .i64 t, .slice B by_.length d] W (Ret (.bool true) W) := by
  go_enter Try.func3, Try.ntmps3
  go_wp2_with fail
  refine (sane_any W).mono ?_
  rintro e w ⟨rfl, hb⟩
  go_wp2_with fail
  refine (ref_few A l.length c w hn).mono ?_
  rintro e w' ⟨rfl, rfl⟩
  cases hfew : decide (l.length ≤ 200 ∨ 4096 < l.length)
  · clear hfew
    go_wp2_with fail
    go_ret
    exact ⟨rfl, hb⟩
  · clear hfew
    by_cases h1 : 100 < by_.length ∧ by_.length ≤ 4096
    · have h2 := h1.1
      have h3 := h1.2
      clear h1
      go_wp2_with fail
      go_ret
      exact ⟨rfl, hb⟩
    · have hcase : (¬ 100 < by_.length) ∨ (100 < by_.length ∧ ¬ by_.length ≤ 4096) := by omega
      clear h1
      rcases hcase with h1 | ⟨h1, h2⟩
      all_goals
        go_wp2_with fail
        refine (status_any A c l t w (hA.more_later hb)).mono ?_
        rintro e w1 ⟨rfl, b1⟩
        replace hb := bCall hb b1
        clear b1
        go_wp2_with fail
        refine (ref_status A c l t w1 (hA.more_later hb)).mono ?_
        rintro e w2 ⟨rfl, b1⟩
        replace hb := bCall hb b1
        clear b1
        go_wp2_with fail
        refine (late_any A B c d l by_ w2 (hA.more_later hb) (hB.more_later hb) hm).mono ?_
        rintro e w3 ⟨A1, c1, rfl, b1, r1⟩
        replace hb := bCall hb b1
        clear b1
        go_wp2_with fail
        refine (ref_late A B c d l by_ w3 (hA.more_later hb) (hB.more_later hb) hm).mono ?_
        rintro e w4 ⟨A2, c2, rfl, b1, r2⟩
        replace hb := bCall hb b1
        replace r1 := r1.more_later b1
        clear b1
        go_wp2_with fail
        refine (check_any A c l w4 (hA.more_later hb)).mono ?_
        rintro e w5 ⟨rfl, b1⟩
        replace hb := bCall hb b1
        replace r1 := r1.more_later b1
        replace r2 := r2.more_later b1
        clear b1
        go_wp2_with fail
        refine (ref_check A c l w5 (hA.more_later hb)).mono ?_
        rintro e w6 ⟨rfl, b1⟩
        replace hb := bCall hb b1
        replace r1 := r1.more_later b1
        replace r2 := r2.more_later b1
        clear b1
        go_wp2_with fail
        refine (same_ints A1 A2 _ _ c1 c2 _ _ w6 r1 r2 (lateL_len l by_) (by have := lateL_len l by_; omega)).mono ?_
        rintro e w7 ⟨rfl, b1⟩
        replace hb := bCall hb b1
        clear b1
        rw [show decide (lateL l by_ = lateL l by_) = true from decide_eq_true rfl]
        go_wp2_with fail
        go_ret
        exact ⟨ret_bool (by simp), hb⟩

set_option maxRecDepth 100000 in
theorem spec_lifted (os : Os) (started : os.Started) (H : Type) (enc : TypeId × Value → H) :
    ReturnsInHanded {} Try.checked os 3 .any (Rows.custodySpecSpec.pre6 enc Try.prog Try.f3 Rows.custodySpecRow.domain false) (Rows.custodySpecSpec.post enc Try.prog Try.f3 false true false false) := by
  refine returnsInHanded_of_change (C := Try.checked) own_knob started (by kernel_rfl) Try.func3
    (ChangeSpec.witness6 (enc := enc) (C := Try.checked) false ⟨#[], #[.slice none 0 0, .int .i64 0, .slice none 0 0], []⟩ 8 (by kernel_rfl) (by kernel_rfl) (by kernel_rfl) (by kernel_rfl)) ?_
  intro W base args ds gs before hval0 hW hcnd _
  have hval : ∀ (j : Nat) t v, Try.f3.params[j]? = some t → args[j]? = some v → Value.okWide Try.prog W .any base t v := hval0
  have hW' := hW
  obtain ⟨p, q, hA0, hV, rfl, hfz, hnd⟩ := hW
  have hA : DataW.TrodAll enc Try.prog W 0 (fun _ => true) true Try.f3.params.toList args.toList ds p := hA0
  rw [Try.params3] at hA hval
  obtain ⟨v0, v1, v2, d0, d1, d2, p0, p1, p2, rfl, rfl, rfl, h0, h1, h2⟩ := trodAll_three hA
  obtain ⟨rfl, rfl⟩ := trodVars_none hV
  obtain ⟨A, n, c, rfl⟩ := okWide_slice Try.underlying22 (hval 0 22 v0 rfl rfl)
  obtain ⟨B, m, d, rfl⟩ := okWide_slice Try.underlying23 (hval 2 23 v2 rfl rfl)
  have k0 := h0
  have k2 := h2
  obtain ⟨f0, hf0⟩ := h0
  obtain ⟨f2, hf2⟩ := h2
  obtain ⟨A', n', c', l, e0, hn, hn2, hAr⟩ := open_events hf0
  obtain ⟨B', m', d', by_, e2, hm, hm2, hBr, _⟩ := open_int_list Try.underlying23 Try.underlying3 cells_int hf2
  simp [Value.cells] at e0 e2
  obtain ⟨rfl, rfl, rfl⟩ := e0
  obtain ⟨rfl, rfl, rfl⟩ := e2
  obtain ⟨t, rfl, rfl, rfl, w1⟩ := open_int Try.underlying3 (hval 1 3 v1 rfl rfl) h1
  clear hA0 hval0
  subst hn
  subst hm
  unfold maxLen at hn2 hm2
  refine (spec_walk A B c d t l by_ W hAr hBr hn2 hm2).mono fun e W' ⟨he, bel⟩ => ?_
  subst he
  exact ⟨_, rfl, _, _, _, [], _, [], hW', trodAll_mk1 (shut_bool Try.underlying4 _), (trodAll_mk3 (arg_stays (by kernel_rfl) (of_decide_eq_true (by kernel_rfl)) k0 bel) (shut_int Try.underlying3 w1) (arg_stays (by kernel_rfl) (of_decide_eq_true (by kernel_rfl)) k2 bel)), rfl, bel.frame _, fun h => by cases h⟩

theorem custodySpec_holds : Rows.CustodySpecSaid :=
  OpenClaim.holds_of_wide 3 Try.f3 rfl rfl rfl rfl rfl rfl rfl ⟨rfl, rfl, rfl, rfl, rfl⟩ rfl rfl rfl rfl rfl (by kernel_rfl) Try.func3 (by kernel_rfl)
    (of_decide_eq_true (by kernel_rfl)) (by unfold Func.isWrapper; first | (rw [if_pos (by decide +kernel)]; kernel_rfl) | (rw [if_neg (by decide +kernel)]; exact ⟨rfl, rfl⟩))
    (fun os started H enc _ => spec_lifted os started H enc)
#print axioms custodySpec_holds

end Go.Proofs.Ytcadkfaaogclfaa
