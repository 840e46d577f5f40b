/-
  Custody: the reference's functions, walked.
-/
import Derived.Test.YtcadkfaaogclfaaCuP
import Derived.Outline
import Derived.Deep.DeepCutAuto
import Derived.Deep.RegionWith
namespace Go.Proofs.Ytcadkfaaogclfaa
open Go.RowKit

set_option maxHeartbeats 400000 in
theorem ref_right (x : Ev) (w : World) : Calls Try.prog 27 #[.agg #[.int .i64 x.letter, .int .i64 x.kind, .int .i64 x.time, .int .i64 x.office]] w (Ret (.bool (rightB x)) w) := by
  go_enter Try.func27, Try.ntmps27
  go_wp2
  all_goals
    go_ret
    refine ⟨ret_bool ?_, bAl (bRefl _) _⟩
    rw [Bool.eq_iff_iff, rightB_iff]
    simp at *
    omega

set_option maxHeartbeats 400000 in
theorem ref_follows (b k : Int) (w : World) : Calls Try.prog 28 #[.int .i64 b, .int .i64 k] w (Same (.bool (followsB b k)) w) := by
  go_enter Try.func28, Try.ntmps28
  go_wp2
  all_goals
    go_ret
    refine ⟨ret_bool ?_, rfl⟩
    rw [Bool.eq_iff_iff, follows_iff]
    simp at *
    omega

def RefRel (l : List Ev) (W : World) (i : Value) (wr : World) : Prop :=
  ∃ k : Nat, k ≤ l.length ∧ i = .int .i64 k ∧ Below W.heap.size W wr ∧ Hid (chk none l = chk (prevOf l k) (l.drop k))

theorem ret_bad {l : List Ev} {W w' : World} (hn : l.length ≤ 4096) (h : chk none l = false) (hb : Below W.heap.size W w') :
    Ret (.int .i64 (check l)) W (.returned (.int .i64 460)) w' := by
  rw [check_bad hn h]; exact ⟨rfl, hb⟩

set_option maxRecDepth 100000 in
set_option maxHeartbeats 4000000 in
theorem ref_check (A : Option Addr) (c : Nat) (l : List Ev) (W : World) (hA : Rd W W.heap.size 4 A l.length (l.flatMap Ev.cells)) :
    Calls Try.prog 15 #[.slice A l.length c] W (Ret (.int .i64 (check l)) W) := by
  by_cases hn : l.length ≤ 4096
  · go_enter Try.func15, Try.ntmps15
    go_wp2_with fail
    go_loopw [3] (fun i wr => RefRel l W i wr) (fun i _ => l.length - (intOf i).toNat)
    case atStart => exact ⟨0, Nat.zero_le _, rfl, bRefl _, Lib.hid rfl⟩
    case round =>
      obtain ⟨k, hkn, rfl, hb, hc⟩ := hrel
      by_cases hlt : k < l.length
      · have hx : ∃ x, l[k]? = some x := ⟨_, List.getElem?_eq_getElem hlt⟩
        obtain ⟨x, hx0⟩ := hx
        have hx := Lib.hid hx0
        clear hx0
        have hR := hA.below hb
        obtain ⟨b, off, rfl, hbb, c0, c1, c2, c3⟩ := Ev_at hR hlt hx.out
        have hp : ∃ p, Hid (prevOf l k = p) := ⟨_, Lib.hid rfl⟩
        obtain ⟨p, hp⟩ := hp
        have hpk : (k = 0 ∧ p = none) ∨ (0 < k ∧ ∃ y, p = some y ∧ wr.cell? ⟨b, off + (k - 1) * 4, none⟩ = some (.int .i64 y.letter) ∧ wr.cell? ⟨b, off + (k - 1) * 4 + 1, none⟩ = some (.int .i64 y.kind) ∧
            wr.cell? ⟨b, off + (k - 1) * 4 + 2, none⟩ = some (.int .i64 y.time)) := by
          rcases prev_at hkn hp.out with h | ⟨hk, y, h1, h2⟩
          · exact .inl h
          · obtain ⟨a0, a1, a2, _⟩ := Ev_cells hR (k := k - 1) (by omega) h2
            exact .inr ⟨hk, y, h1, a0, a1, a2⟩
        have HNo := Lib.hid (fun w' (h : nextB p x = false) hb' => ret_bad (w' := w') (W := W) hn (chk_bad hx.out hp.out hc.out h) hb')
        go_upto_region 7 with fail
        go_cut [29] (fun s29 wc => s29 = .bool (sameB p x) ∧ ∃ n, wc = wr.drewN n)
        case first =>
          -- <<
          rcases hpk with ⟨hk, rfl⟩ | ⟨hk, y, rfl, e0, e1, e2⟩
          · have hk' : decide (0 < k) = false := by simp; omega
            clear hk
            go_quiet (fail)
            go_wp2_with fail
            go_meet
            exact ⟨rfl, _, rfl⟩
          · go_quiet (fail)
            go_wp2_with fail
            go_meet
            exact ⟨rfl, _, rfl⟩
          -- >>
        case rest =>
          obtain ⟨rfl, n1, rfl⟩ := hcut
          go_upto_if 29 with fail
          go_cut [4] (fun s4 wc => s4 = .int .i64 (bfOf p x) ∧ (∃ n, wc = wr.drewN n) ∧ Hid (timeB p x = true))
          case first =>
            -- <<
            rcases hpk with ⟨hk, rfl⟩ | ⟨hk, y, rfl, e0, e1, e2⟩
            · rw [show sameB none x = false from rfl]
              go_wp2_with fail
              go_meet
              exact ⟨rfl, ⟨_, rfl⟩, rfl⟩
            · by_cases hyx : y.letter = x.letter
              · rw [show sameB (some y) x = true from sameB_eq hyx]
                have hbe := Lib.hid (bfOf_eq hyx)
                have hte := Lib.hid (timeB_eq hyx)
                clear hyx
                go_wp2_with fail
                go_quiet (fail)
                go_wp2_with fail
                · go_ret
                  exact HNo.out _ (next_time (by rw [hte.out]; simp; omega)) ⟨hb.os, hb.tape, hb.output, hb.size, hb.block⟩
                · go_meet
                  exact ⟨by rw [hbe.out], ⟨_, World.drewN_drewN ..⟩, by show _ = _; rw [hte.out]; simp; omega⟩
              · rw [show sameB (some y) x = false from sameB_ne hyx]
                have hbe := Lib.hid (bfOf_ne hyx)
                have hte := Lib.hid (timeB_ne hyx)
                clear hyx
                go_wp2_with fail
                go_meet
                exact ⟨by rw [hbe.out], ⟨_, rfl⟩, hte.out⟩
            -- >>
          case rest =>
            obtain ⟨rfl, ⟨n2, rfl⟩, htime⟩ := hcut
            go_upto_region 11 with fail
            have hbw : b < wr.heap.size := Nat.lt_of_lt_of_le hbb hb.size
            go_cut [81] (fun s81 wc => s81 = .bool (!(rightB x && (orderB p x && followsB (bfOf p x) x.kind))) ∧ Below W.heap.size W wc)
            case first =>
              have hbz : Hid (∀ z : Later, Below W.heap.size W (later wr z)) := fun z => bCall hb (later_below _ z)
              cases hr : rightB x
              · refine wp_region_later_lit wr (bDrN (bRefl _) _) (by kernel_rfl) (by kernel_rfl) ?_
                repeat (go_big_quiet_step (first | (go_at_call 27; exact later_ret (ref_right x _)) | (go_at_call 28; exact later_same (ref_follows _ _ _))))
                refine wpQuiet_nil ?_
                rintro _ ⟨z, rfl⟩
                go_wp2_with fail
                go_meet
                exact ⟨by rw [hr]; rfl, hbz.out z⟩
              · rcases hpk with ⟨hk, rfl⟩ | ⟨hk, y, rfl, e0, e1, e2⟩
                · have hk' : decide (0 < k) = false := by simp; omega
                  clear hk
                  refine wp_region_later_lit wr (bDrN (bRefl _) _) (by kernel_rfl) (by kernel_rfl) ?_
                  repeat (go_big_quiet_step (first | (go_at_call 27; exact later_ret (ref_right x _)) | (go_at_call 28; exact later_same (ref_follows _ _ _))))
                  refine wpQuiet_nil ?_
                  rintro _ ⟨z, rfl⟩
                  go_wp2_with fail
                  go_meet
                  exact ⟨by rw [hr]; rfl, hbz.out z⟩
                · by_cases ho : x.letter < y.letter
                  · refine wp_region_later_lit wr (bDrN (bRefl _) _) (by kernel_rfl) (by kernel_rfl) ?_
                    repeat (go_big_quiet_step (first | (go_at_call 27; exact later_ret (ref_right x _)) | (go_at_call 28; exact later_same (ref_follows _ _ _))))
                    refine wpQuiet_nil ?_
                    rintro _ ⟨z, rfl⟩
                    go_wp2_with fail
                    go_meet
                    exact ⟨by rw [hr, show orderB (some y) x = false from decide_eq_false (by omega)]; rfl, hbz.out z⟩
                  · have ho' : decide (x.letter < y.letter) = false := by simpa using ho
                    refine wp_region_later_lit wr (bDrN (bRefl _) _) (by kernel_rfl) (by kernel_rfl) ?_
                    repeat (go_big_quiet_step (first | (go_at_call 27; exact later_ret (ref_right x _)) | (go_at_call 28; exact later_same (ref_follows _ _ _))))
                    refine wpQuiet_nil ?_
                    rintro _ ⟨z, rfl⟩
                    go_wp2_with fail
                    go_meet
                    exact ⟨by rw [hr, show orderB (some y) x = true from decide_eq_true (by omega)]; rfl, hbz.out z⟩
            case rest =>
              obtain ⟨rfl, hbW⟩ := hcut
              cases hv : (rightB x && (orderB p x && followsB (bfOf p x) x.kind))
              · have Hv := Lib.hid hv
                clear hv
                go_wp2_with fail
                go_ret
                refine HNo.out _ ?_ hbW
                have hv := Hv.out
                unfold nextB
                revert hv
                cases rightB x <;> cases orderB p x <;> cases followsB (bfOf p x) x.kind <;> simp
              · have Hv := Lib.hid hv
                clear hv
                go_wp2_with fail
                go_roundw
                case measure => simp [intOf]; omega
                case rel =>
                  refine ⟨k + 1, by omega, by go_num, hbW, chk_on hx.out hp.out hc.out ?_⟩
                  have hv := Hv.out
                  unfold nextB
                  rw [htime.out]
                  revert hv
                  cases rightB x <;> cases orderB p x <;> cases followsB (bfOf p x) x.kind <;> simp
      · go_wp2_with fail
        go_ret
        exact ⟨ret_int (check_good hn (chk_end (by omega) hc.out)).symm, hb⟩
  · go_enter Try.func15, Try.ntmps15
    go_wp2_with fail
    go_ret
    exact ⟨ret_int (check_many hn).symm, bRefl _⟩

end Go.Proofs.Ytcadkfaaogclfaa
