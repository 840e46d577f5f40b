/-
  Custody: the reference's Status and Late, walked.
-/
import Derived.Test.YtcadkfaaogclfaaCuS
namespace Go.Proofs.Ytcadkfaaogclfaa
open Go.RowKit

def RetIE (k e : Int) (w : World) (r : Ending) (w' : World) : Prop := r = .returned (.tuple #[.int .i64 k, .int .i64 e]) ∧ Below w.heap.size w w'
theorem ret_ie {k e k' e' : Int} (h : k = k') (h' : e = e') : Ending.returned (.tuple #[.int .i64 k, .int .i64 e]) = .returned (.tuple #[.int .i64 k', .int .i64 e']) := by rw [h, h']

theorem spanB_iff (a b n : Int) : spanB a b n = true ↔ a ≤ n ∧ n ≤ b := by unfold spanB; simp

theorem few_of_check {l : List Ev} (h0 : check l = 0) : l.length ≤ 4096 := by
  by_cases h : l.length ≤ 4096
  · exact h
  · rw [check_many h] at h0; cases h0

theorem kindAt_take {l : List Ev} {k : Nat} {x : Ev} (hx : l[k]? = some x) (t : Int) : kindAt (l.take (k + 1)) t = if x.letter = t then x.kind else kindAt (l.take k) t := by
  obtain ⟨hk, rfl⟩ := List.getElem?_eq_some_iff.1 hx
  rw [List.take_succ_eq_append_getElem hk, kindAt_snoc]

set_option maxRecDepth 100000 in
set_option maxHeartbeats 1000000 in
theorem ref_status (A : Option Addr) (c : Nat) (l : List Ev) (t : Int) (W : World) (hA : Rd W W.heap.size 4 A l.length (l.flatMap Ev.cells)) :
    Calls Try.prog 11 #[.slice A l.length c, .int .i64 t] W (RetIE (statusK l t) (statusE l t) W) := by
  by_cases h0 : check l = 0
  · have hn : l.length ≤ 4096 := by
      by_cases h : l.length ≤ 4096
      · exact h
      · rw [check_many h] at h0; cases h0
    have H0 := Lib.hid h0
    have hsk : Hid (statusK l t = if spanB 0 1048576 t = true then kindAt l t else 0) := if_pos h0
    have hse : Hid (statusE l t = if spanB 0 1048576 t = true then 0 else 1) := if_pos h0
    clear h0
    go_enter Try.func11, Try.ntmps11
    go_wp2_with fail
    refine (ref_check A c l W hA).mono ?_
    rintro e w1 ⟨rfl, hb1⟩
    rw [H0.out]
    by_cases ht : 0 ≤ t ∧ t ≤ 1048576
    · have ht0 := ht.1
      have ht1 := ht.2
      have hs := Lib.hid ((spanB_iff _ _ _).2 ht)
      clear ht
      go_wp2_with fail
      go_loopw [7, 8] (fun s i wr => ∃ k : Nat, k ≤ l.length ∧ i = .int .i64 k ∧ s = .int .i64 (kindAt (l.take k) t) ∧ Below W.heap.size W wr) (fun _ i _ => l.length - (intOf i).toNat)
      case atStart => exact ⟨0, Nat.zero_le _, rfl, rfl, hb1⟩
      case round =>
        obtain ⟨k, hkn, rfl, rfl, hb⟩ := hrel
        by_cases hlt : k < l.length
        · have hx : ∃ x, l[k]? = some x := ⟨_, List.getElem?_eq_getElem hlt⟩
          obtain ⟨x, hx0⟩ := hx
          have hx := Lib.hid hx0
          clear hx0
          obtain ⟨b, off, rfl, hbb, c0, c1, c2, c3⟩ := Ev_at (hA.below hb) hlt hx.out
          by_cases hxt : x.letter = t
          · have hk : Hid (kindAt (l.take (k + 1)) t = x.kind) := (kindAt_take hx.out t).trans (if_pos hxt)
            have hxt' : (x.letter == t) = true := by simpa using hxt
            clear hxt
            go_wp2_with fail
            go_roundw
            case rel => exact ⟨k + 1, by omega, by go_num, by rw [hk.out], hb⟩
            case measure => simp [intOf]; omega
          · have hk : Hid (kindAt (l.take (k + 1)) t = kindAt (l.take k) t) := (kindAt_take hx.out t).trans (if_neg hxt)
            have hxt' : (x.letter == t) = false := by simpa using hxt
            clear hxt
            go_wp2_with fail
            go_roundw
            case rel => exact ⟨k + 1, by omega, by go_num, by rw [hk.out], hb⟩
            case measure => simp [intOf]; omega
        · go_wp2_with fail
          go_ret2
          exact ⟨ret_ie (by rw [hsk.out, if_pos hs.out, List.take_of_length_le (by omega)]) (by rw [hse.out, if_pos hs.out]), hb⟩
    · have hs : Hid (¬ spanB 0 1048576 t = true) := fun h => ht ((spanB_iff _ _ _).1 h)
      go_wp2_with fail
      all_goals
        go_ret2
        exact ⟨ret_ie (by rw [hsk.out, if_neg hs.out]) (by rw [hse.out, if_neg hs.out]), hb1⟩
  · have hsk : Hid (statusK l t = 0) := if_neg h0
    have hse : Hid (statusE l t = check l) := if_neg h0
    have h0' : (check l != 0) = true := by simpa using h0
    clear h0
    go_enter Try.func11, Try.ntmps11
    go_wp2_with fail
    refine (ref_check A c l W hA).mono ?_
    rintro e w1 ⟨rfl, hb1⟩
    go_wp2_with fail
    go_ret2
    exact ⟨ret_ie (by rw [hsk.out]) (by rw [hse.out]), hb1⟩

end Go.Proofs.Ytcadkfaaogclfaa
