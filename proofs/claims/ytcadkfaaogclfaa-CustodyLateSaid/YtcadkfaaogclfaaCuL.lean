/-
  Custody: the reference's Late, walked.
-/
import Derived.Test.YtcadkfaaogclfaaCuT
namespace Go.Proofs.Ytcadkfaaogclfaa
open Go.RowKit

theorem int_info : (Try.prog.info? 3).map (fun i => (i.zero, i.size, i.bytes)) = some (some (.int .i64 0), 1, 8) := by kernel_rfl

theorem byOk_bad {by_ : List Int} {k : Nat} {t : Int} (h : by_[k]? = some t) (ht : ¬ (0 ≤ t ∧ t ≤ 2097151)) : byOk by_ = false := by
  obtain ⟨hk, rfl⟩ := List.getElem?_eq_some_iff.1 h
  rw [Bool.eq_false_iff]
  intro hb
  exact ht ((spanB_iff _ _ _).1 (List.all_eq_true.1 hb _ (List.getElem_mem hk)))
theorem byOk_all {by_ : List Int} (h : ∀ (j : Nat) (t : Int), by_[j]? = some t → 0 ≤ t ∧ t ≤ 2097151) : byOk by_ = true := by
  refine List.all_eq_true.2 fun t ht => ?_
  obtain ⟨j, hj, rfl⟩ := List.getElem_of_mem ht
  exact (spanB_iff _ _ _).2 (h j _ (List.getElem?_eq_getElem hj))
theorem settled_take {l : List Ev} {k : Nat} {x : Ev} (hx : l[k]? = some x) (i t : Int) : settledB (l.take (k + 1)) i t = (settledB (l.take k) i t || (x.letter == i && (decide (x.time ≤ t) && settlesB x.kind))) := by
  obtain ⟨hk, rfl⟩ := List.getElem?_eq_some_iff.1 hx
  rw [List.take_succ_eq_append_getElem hk, settledB_snoc]
theorem retIL_nil {e : Int} {W w' : World} (hb : Below W.heap.size W w') (l : List Int) (hl : l = []) (e' : Int) (he : e' = e) : RetIL l e' W (.returned (.tuple #[.slice none 0 0, .int .i64 e])) w' := by
  subst hl; subst he
  exact ⟨none, 0, rfl, hb, Rd.nil_⟩

/-- What is owned in the outer loop: the letters that are late so far. -/
def LateRel (l : List Ev) (by_ : List Int) (W : World) (k : Nat) (v : Value) (wr : World) : Prop :=
  Below W.heap.size W wr ∧ wr.ownsRow W.heap.size 3 1 v (lateUpto l by_ k).length (ints (lateUpto l by_ k))

set_option maxRecDepth 100000 in
set_option maxHeartbeats 4000000 in
theorem ref_late (A B : Option Addr) (c d : Nat) (l : List Ev) (by_ : List Int) (W : World) (hA : Rd W W.heap.size 4 A l.length (l.flatMap Ev.cells)) (hB : Rd W W.heap.size 1 B by_.length (ints by_))
    (hm : by_.length ≤ 9223372036854775807) :
    Calls Try.prog 13 #[.slice A l.length c, .slice B by_.length d] W (RetIL (lateL l by_) (lateE l by_) W) := by
  by_cases h0 : check l = 0
  · have hn := few_of_check h0
    have H0 := Lib.hid h0
    by_cases hm2 : by_.length ≤ 4096
    · have hsk : Hid (lateL l by_ = if byOk by_ = true then lateUpto l by_ by_.length else []) := by show _ = _; unfold lateL; rw [if_pos h0, if_pos hm2]
      have hse : Hid (lateE l by_ = if byOk by_ = true then 0 else 1) := by show _ = _; unfold lateE; rw [if_pos h0, if_pos hm2]
      clear h0
      go_enter Try.func13, Try.ntmps13
      go_wp2_with fail
      refine (ref_check A c l W hA).mono ?_
      rintro e w1 ⟨rfl, hb1⟩
      rw [H0.out]
      go_wp2_with fail
      go_loopw [7] (fun i wr => ∃ k : Nat, k ≤ by_.length ∧ i = .int .i64 k ∧ Below W.heap.size W wr ∧ Hid (∀ j t, j < k → by_[j]? = some t → 0 ≤ t ∧ t ≤ 2097151)) (fun i _ => by_.length - (intOf i).toNat)
      case atStart => exact ⟨0, Nat.zero_le _, rfl, hb1, Lib.hid (fun j t h _ => by omega)⟩
      case round =>
        obtain ⟨k, hkn, rfl, hb, hok⟩ := hrel
        by_cases hlt : k < by_.length
        · -- <<
          have hx : ∃ t, by_[k]? = some t := ⟨_, List.getElem?_eq_getElem hlt⟩
          obtain ⟨t, ht0⟩ := hx
          have ht := Lib.hid ht0
          clear ht0
          obtain ⟨b, off, rfl, hbb, c0⟩ := Int_at (hB.below hb) hlt ht.out
          by_cases h1 : t < 0
          · have hbad := Lib.hid (byOk_bad ht.out (by omega))
            go_wp2_with fail
            go_ret2
            exact retIL_nil hb _ (by rw [hsk.out, hbad.out]; rfl) _ (by rw [hse.out, hbad.out]; rfl)
          · have h1' : decide (t < 0) = false := by simpa using h1
            by_cases h2 : 2097152 ≤ t
            · have hbad := Lib.hid (byOk_bad ht.out (by omega))
              go_wp2_with fail
              go_ret2
              exact retIL_nil hb _ (by rw [hsk.out, hbad.out]; rfl) _ (by rw [hse.out, hbad.out]; rfl)
            · have h2' : decide (2097152 ≤ t) = false := by simpa using h2
              go_wp2_with fail
              go_roundw
              case rel =>
                refine ⟨k + 1, by omega, by go_num, hb, Lib.hid ?_⟩
                intro j u hj hu
                by_cases e : j = k
                · subst e; rw [ht.out] at hu; injection hu with hu; omega
                · exact hok.out j u (by omega) hu
              case measure => simp [intOf]; omega
          -- >>
        · have hall : Hid (byOk by_ = true) := byOk_all fun j t ht => hok.out j t (by have := (List.getElem?_eq_some_iff.1 ht).1; omega) ht
          go_wp2_with fail
          go_loopw [8, 9] (fun v i wr => ∃ k : Nat, k ≤ by_.length ∧ i = .int .i64 k ∧ LateRel l by_ W k v wr) (fun _ i _ => by_.length - (intOf i).toNat)
          case atStart =>
            refine ⟨0, Nat.zero_le _, rfl, bAl hb _, ?_⟩
            exact World.ownsRow_lit _ _ 0 hb.size (by unfold maxLen; omega) rfl
          case round =>
            clear hok hlt
            obtain ⟨k2, hkn2, rfl, hb2, hown⟩ := hrel
            obtain ⟨wo, rfl⟩ : ∃ wo : World, wo = wr := ⟨_, rfl⟩
            by_cases hlt : k2 < by_.length
            · have hx : ∃ t, by_[k2]? = some t := ⟨_, List.getElem?_eq_getElem hlt⟩
              obtain ⟨t, ht0⟩ := hx
              have ht := Lib.hid ht0
              clear ht0
              obtain ⟨b, off, rfl, hbb, c0⟩ := Int_at hB hlt ht.out
              go_wp2_with fail
              go_loopw [10, 11] (fun s i wi => ∃ j : Nat, j ≤ l.length ∧ i = .int .i64 j ∧ s = .bool (settledB (l.take j) k2 t) ∧ LateRel l by_ W k2 u8 wi) (fun _ i _ => l.length - (intOf i).toNat)
              case atStart => exact ⟨0, Nat.zero_le _, rfl, rfl, hb2, hown⟩
              case round =>
                obtain ⟨j, hjn, rfl, rfl, hb3, hown3⟩ := hrel
                obtain ⟨wi, rfl⟩ : ∃ wi : World, wi = wr := ⟨_, rfl⟩
                by_cases hj : j < l.length
                · have hx : ∃ x, l[j]? = some x := ⟨_, List.getElem?_eq_getElem hj⟩
                  obtain ⟨x, hx0⟩ := hx
                  have hx := Lib.hid hx0
                  clear hx0
                  -- <<
                  obtain ⟨b2, off2, rfl, hbb2, e0, e1, e2, e3⟩ := Ev_at (hA.below hb3) hj hx.out
                  have c1 := (hb3.cell (p := ⟨b, off + k2, none⟩) hbb).trans c0
                  have hbr : b < wi.heap.size := Nat.lt_of_lt_of_le hbb hb3.size
                  have hbr2 : b2 < wi.heap.size := Nat.lt_of_lt_of_le hbb2 hb3.size
                  have hst := Lib.hid (settled_take hx.out (k2 : Int) t)
                  have hgo : Hid (∀ z : Later, LateRel l by_ W k2 u8 (later wi z)) := fun z => ⟨bCall hb3 (later_below _ z), ownsRow_keep hown3 (later_below _ z)⟩
                  by_cases h1 : x.letter = (k2 : Int)
                  · have h1' : (x.letter == (k2 : Int)) = true := by simpa using h1
                    have H1 := Lib.hid h1'
                    clear h1
                    by_cases h2 : x.time ≤ t
                    · have H2 : Hid (decide (x.time ≤ t) = true) := decide_eq_true h2
                      cases h3 : settlesB x.kind
                      · have H3 := Lib.hid h3
                        go_wp2_with fail
                        refine wp_region_later_lit wi (bRefl _) (by kernel_rfl) (by kernel_rfl) ?_
                        repeat (go_big_quiet_step (first | (go_at_call 26; exact later_same (ref_settles _ _))))
                        refine wpQuiet_nil ?_
                        rintro _ ⟨z, rfl⟩
                        go_wp2_with fail
                        go_roundw
                        case rel => exact ⟨j + 1, by omega, by go_num, by rw [hst.out, H3.out]; simp, hgo.out z⟩
                        case measure => simp [intOf]; omega
                      · have H3 := Lib.hid h3
                        go_wp2_with fail
                        refine wp_region_later_lit wi (bRefl _) (by kernel_rfl) (by kernel_rfl) ?_
                        repeat (go_big_quiet_step (first | (go_at_call 26; exact later_same (ref_settles _ _))))
                        refine wpQuiet_nil ?_
                        rintro _ ⟨z, rfl⟩
                        go_wp2_with fail
                        go_roundw
                        case rel => exact ⟨j + 1, by omega, by go_num, by rw [hst.out, H1.out, H2.out, H3.out]; simp, hgo.out z⟩
                        case measure => simp [intOf]; omega
                    · have h2' : decide (x.time ≤ t) = false := by simpa using h2
                      have H2 := Lib.hid h2'
                      go_wp2_with fail
                      refine wp_region_later_lit wi (bRefl _) (by kernel_rfl) (by kernel_rfl) ?_
                      repeat (go_big_quiet_step (first | (go_at_call 26; exact later_same (ref_settles _ _))))
                      refine wpQuiet_nil ?_
                      rintro _ ⟨z, rfl⟩
                      go_wp2_with fail
                      go_roundw
                      case rel => exact ⟨j + 1, by omega, by go_num, by rw [hst.out, H2.out]; simp, hgo.out z⟩
                      case measure => simp [intOf]; omega
                  · have h1' : (x.letter == (k2 : Int)) = false := by simpa using h1
                    have H1 := Lib.hid h1'
                    clear h1
                    go_wp2_with fail
                    refine wp_region_later_lit wi (bRefl _) (by kernel_rfl) (by kernel_rfl) ?_
                    repeat (go_big_quiet_step (first | (go_at_call 26; exact later_same (ref_settles _ _))))
                    refine wpQuiet_nil ?_
                    rintro _ ⟨z, rfl⟩
                    go_wp2_with fail
                    go_roundw
                    case rel => exact ⟨j + 1, by omega, by go_num, by rw [hst.out, H1.out]; simp, hgo.out z⟩
                    case measure => simp [intOf]; omega
                  -- >>
                · have hset : Hid (settledB (l.take j) k2 t = settledB l k2 t) := by show _ = _; rw [List.take_of_length_le (by omega)]
                  have hsu := Lib.hid (lateUpto_succ l by_ k2)
                  have hbt : Hid (by_[k2]?.getD 0 = t) := by show _ = _; rw [ht.out]; rfl
                  rw [hset.out]
                  cases hs : settledB l k2 t
                  · have HS := Lib.hid hs
                    clear hs
                    have hln : (lateUpto l by_ k2).length ≤ 1000000 := by have := lateUpto_le l by_ k2; omega
                    have hone : ∀ u ∈ [Value.int .i64 (k2 : Int)], u.oneCell' = true := by intro u hu; simp at hu; subst hu; rfl
                    have hbs := hb3.size
                    go_wp2_with (at_builtin; refine wpList_append1 wi [.int .i64 (k2 : Int)] (.tmp 80) (.tmp 82) 23 W.heap.size 3 (.int .i64 0) 1 8 u8 (lateUpto l by_ k2).length (ints (lateUpto l by_ k2)) rfl rfl Try.underlying23 int_info rfl (by omega) (by omega) rfl hown3 rfl rfl hone hln hbs ?_; intro v' w' hown4 hbw hgw)
                    go_roundw
                    case rel =>
                      refine ⟨k2 + 1, by omega, by go_num, hb3.trans hbw, ?_⟩
                      rw [hsu.out, hbt.out, HS.out]
                      simpa [ints] using hown4
                    case measure => simp [intOf]; omega
                  · have HS := Lib.hid hs
                    clear hs
                    go_wp2_with fail
                    go_roundw
                    case rel =>
                      refine ⟨k2 + 1, by omega, by go_num, hb3, ?_⟩
                      rw [hsu.out, hbt.out, HS.out]
                      simpa using hown3
                    case measure => simp [intOf]; omega
            · go_wp2_with fail
              go_ret2
              obtain ⟨A', c', hv, hrd⟩ := Rd.of_own hown
              have hk : k2 = by_.length := by omega
              subst hk
              subst hv
              have e1 : lateL l by_ = lateUpto l by_ by_.length := by rw [hsk.out, if_pos hall.out]
              have e2 : lateE l by_ = 0 := by rw [hse.out, if_pos hall.out]
              rw [e1, e2]
              exact ⟨A', c', rfl, hb2, hrd⟩
    · have hsk : Hid (lateL l by_ = []) := by show _ = _; unfold lateL; rw [if_pos h0, if_neg hm2]
      have hse : Hid (lateE l by_ = 1) := by show _ = _; unfold lateE; rw [if_pos h0, if_neg hm2]
      clear h0
      go_enter Try.func13, Try.ntmps13
      go_wp2_with fail
      refine (ref_check A c l W hA).mono ?_
      rintro e w1 ⟨rfl, hb1⟩
      rw [H0.out]
      go_wp2_with fail
      go_ret2
      exact retIL_nil hb1 _ hsk.out _ hse.out
  · have hsk : Hid (lateL l by_ = []) := if_neg h0
    have hse : Hid (lateE l by_ = check l) := if_neg h0
    have h0' : (check l != 0) = true := by simpa using h0
    clear h0
    go_enter Try.func13, Try.ntmps13
    go_wp2_with fail
    refine (ref_check A c l W hA).mono ?_
    rintro e w1 ⟨rfl, hb1⟩
    go_wp2_with fail
    go_ret2
    exact retIL_nil hb1 _ hsk.out _ hse.out

end Go.Proofs.Ytcadkfaaogclfaa
