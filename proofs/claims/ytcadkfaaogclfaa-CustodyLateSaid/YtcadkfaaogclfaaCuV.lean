/-
  Custody: Late, walked.
-/
import Derived.Test.YtcadkfaaogclfaaCuU
import Derived.Test.YtcadkfaaogclfaaCuL
import Derived.Test.YtcadkfaaogclfaaMaps
namespace Go.Proofs.Ytcadkfaaogclfaa
open Go.RowKit

/-- Settled, seen by the program: bit k of the number 376. -/
theorem bit376 (k : Int) : bitB 376 k = settlesB k := by
  have hk : (k < 0 ∨ 16 ≤ k) ∨ (0 ≤ k ∧ k < 16) := by omega
  rcases hk with hk | ⟨h0, h1⟩
  · have h1 : bitB 376 k = false := by unfold bitB; rw [decide_eq_false (by omega)]; rfl
    rw [h1]
    unfold settlesB
    have e3 : (k == 3) = false := by simp; omega
    have e4 : (k == 4) = false := by simp; omega
    have e5 : (k == 5) = false := by simp; omega
    have e6 : (k == 6) = false := by simp; omega
    have e8 : (k == 8) = false := by simp; omega
    simp [e3, e4, e5, e6, e8]
  · obtain ⟨n, rfl⟩ := Int.eq_ofNat_of_zero_le h0
    have hn : n < 16 := by omega
    have : ∀ n : _root_.Fin 16, bitB 376 ((n.1 : Nat) : Int) = settlesB ((n.1 : Nat) : Int) := by decide +kernel
    exact this ⟨n, hn⟩
theorem setVS : setV [.int .i64 3, .int .i64 4, .int .i64 5, .int .i64 6, .int .i64 8] = 376 := by kernel_rfl

/-- All letters of accepted events are in range. -/
theorem chk_right : ∀ (p : Option Ev) (l : List Ev), chk p l = true → ∀ x ∈ l, rightB x = true
  | _, [], _, _, hx => by cases hx
  | p, y :: l, h, x, hx => by
    have h1 : nextB p y = true := by
      cases hn : nextB p y
      · have : chk p (y :: l) = false := by show (nextB p y && chk (some y) l) = false; rw [hn]; rfl
        rw [this] at h; cases h
      · rfl
    have h2 : chk (some y) l = true := by
      have : (nextB p y && chk (some y) l) = true := h
      rw [h1] at this; simpa using this
    cases hx with
    | head => unfold nextB at h1; simp at h1; exact h1.2.2.2
    | tail _ hm => exact chk_right _ _ h2 x hm
theorem chk_of_check {l : List Ev} (h0 : check l = 0) : chk none l = true := by
  have hn := few_of_check h0
  cases hc : chk none l
  · rw [check_bad hn hc] at h0; cases h0
  · rfl
/-- What the map of settled letters holds after some events. -/
def settledS (l : List Ev) (by_ : List Int) (i : Int) : Bool := l.any fun x => x.letter == i && (decide (x.letter < by_.length) && (decide (x.time ≤ by_[x.letter.toNat]?.getD 0) && settlesB x.kind))
theorem settledS_eq (l : List Ev) (by_ : List Int) (i : Nat) (hi : i < by_.length) : settledS l by_ i = settledB l i (by_[i]?.getD 0) := by
  unfold settledS settledB
  congr 1
  funext x
  by_cases h : x.letter = i
  · have h1 : decide (x.letter < by_.length) = true := by simp; omega
    rw [h1, h]
    simp
  · have h1 : (x.letter == (i : Int)) = false := by simpa using h
    rw [h1]; rfl
theorem settledS_take {l : List Ev} {k : Nat} {x : Ev} (hx : l[k]? = some x) (by_ : List Int) : settledS (l.take (k + 1)) by_ =
    fun i => (settledS (l.take k) by_ i || (x.letter == i && (decide (x.letter < by_.length) && (decide (x.time ≤ by_[x.letter.toNat]?.getD 0) && settlesB x.kind)))) := by
  obtain ⟨hk, rfl⟩ := List.getElem?_eq_some_iff.1 hx
  funext i
  rw [List.take_succ_eq_append_getElem hk]
  unfold settledS
  rw [List.any_append]
  simp only [List.any_cons, List.any_nil, Bool.or_false]

set_option maxRecDepth 100000 in
set_option maxHeartbeats 4000000 in
theorem late_any (A B : Option Addr) (c d : Nat) (l : List Ev) (by_ : List Int) (W : World) (hA : Rd W W.heap.size 4 A l.length (l.flatMap Ev.cells)) (hB : Rd W W.heap.size 1 B by_.length (ints by_))
    (hm : by_.length ≤ 9223372036854775807) :
    Calls Try.prog 12 #[.slice A l.length c, .slice B by_.length d] W (RetIL (lateL l by_) (lateE l by_) W) := by
  have hmm := @run_makeMap Try.prog
  go_enter_defers Try.func12, Try.ntmps12
  go_wp2_with fail
  refine (follow_any A c l _ (by exact (hA.alloc (Nat.le_refl _) _).more (by simp))).mono ?_
  rintro r w1 ⟨hb, hr⟩
  have hbW : Below W.heap.size W w1 := bCall (bAl (bRefl W) _) hb
  have B1 : Blk w1 W.heap.size 26 #[.int .i64 0] := (Blk.new W _ _ _ rfl).below hb (by simp)
  clear hb
  have hpan : ∀ (w2 : World) (e : Int) (tmps : Array Value), Below W.heap.size W w2 → Blk w2 W.heap.size 26 #[.int .i64 0] → lateL l by_ = [] → lateE l by_ = e → tmps[4]?.getD undef = .slice none 0 0 → tmps[5]?.getD undef = .pointer (some ⟨W.heap.size, 0, none⟩) →
      Leaves Try.prog Try.f12 tmps (RetIL (lateL l by_) (lateE l by_) W) [{ target := .fn (.func 19) #[], args := #[.pointer (some ⟨W.heap.size, 0, none⟩)] }] (.panicking [{ v := .iface 26 (.int .i64 e), recovered := false }]) w2 := by
    intro w2 e tmps hb2 B2 h1 h2 h4 h5
    refine door_panic _ e 0 _ (.tuple #[.slice none 0 0, .int .i64 e]) (B2.cell 0) (B2.frozen 0) ?_ (retIL_nil (bSet hb2 (Nat.le_refl _) _) _ h1 _ h2)
    have e1 := (B2.set_ 0 (.int .i64 e)).cell 0
    simp [results, Try.results12, go_sem, h4, h5, e1]
  have Hpan := Lib.hid hpan
  clear hpan
  rcases hr with ⟨h0, rfl⟩ | ⟨h0, rfl⟩
  · have hn := few_of_check h0
    have H0 := Lib.hid h0
    clear h0
    go_wp2_with fail
    refine (need_any _ _ _).mono ?_
    rintro e w' ⟨rfl, ⟨ht, rfl⟩ | ⟨ht, rfl⟩⟩
    · have hm2 : by_.length ≤ 4096 := by have h := of_decide_eq_true ht; omega
      clear ht
      have hsk : Hid (lateL l by_ = if byOk by_ = true then lateUpto l by_ by_.length else []) := by show _ = _; unfold lateL; rw [if_pos H0.out, if_pos hm2]
      have hse : Hid (lateE l by_ = if byOk by_ = true then 0 else 1) := by show _ = _; unfold lateE; rw [if_pos H0.out, if_pos hm2]
      go_wp2_with fail
      go_loopw [22] (fun i wr => ∃ k : Nat, k ≤ by_.length ∧ i = .int .i64 k ∧ Below W.heap.size W wr ∧ Blk wr W.heap.size 26 #[.int .i64 0] ∧ Hid (∀ (j : Nat) (t : Int), j < k → by_[j]? = some t → 0 ≤ t ∧ t ≤ 2097151)) (fun i _ => by_.length - (intOf i).toNat)
      case atStart => exact ⟨0, Nat.zero_le _, rfl, hbW, B1, Lib.hid (fun j t h _ => by omega)⟩
      case round =>
        clear hbW B1
        obtain ⟨k, hkn, rfl, hb, B2, hok⟩ := hrel
        by_cases hlt : k < by_.length
        · -- <<
          have hx : ∃ t, by_[k]? = some t := ⟨_, List.getElem?_eq_getElem hlt⟩
          obtain ⟨t, ht0⟩ := hx
          have ht := Lib.hid ht0
          clear ht0
          obtain ⟨b, off, rfl, hbb, c0⟩ := Int_at (hB.below hb) hlt ht.out
          go_wp2_with fail
          refine (span_has _ _ _ _).mono ?_
          rintro e w2 ⟨rfl, hb2⟩
          have hbW2 := bCall hb hb2
          have B3 := B2.below hb2 B2.lt
          clear hb2
          go_wp2_with fail
          refine (need_any _ _ _).mono ?_
          rintro e w' ⟨rfl, ⟨hs, rfl⟩ | ⟨hs, rfl⟩⟩
          · have hs' := (spanB_iff _ _ _).1 hs
            have Hs := Lib.hid hs'
            clear hs hs'
            go_wp2_with fail
            go_roundw
            case rel =>
              refine ⟨k + 1, by omega, by go_num, hbW2, B3, Lib.hid ?_⟩
              intro j u hj hu
              by_cases e : j = k
              · subst e; rw [ht.out] at hu; injection hu with hu; subst hu; exact Hs.out
              · exact hok.out j u (by omega) hu
            case measure => simp [intOf]; omega
          · have hbad := byOk_bad ht.out (fun h => by rw [(spanB_iff _ _ _).2 h] at hs; cases hs)
            exact Hpan.out _ 1 _ hbW2 B3 (by rw [hsk.out, hbad]; rfl) (by rw [hse.out, hbad]; rfl) rfl rfl
          -- >>
        · have hall : Hid (byOk by_ = true) := byOk_all fun j t ht => hok.out j t (by have := (List.getElem?_eq_some_iff.1 ht).1; omega) ht
          go_wp2_with fail
          refine (kinds_any _ _ _ _ _ (by exact Rd.new _ _ _ _ _ _ (by simp) rfl) (by rfl) (by omega)).mono ?_
          rintro e w2 ⟨rfl, rfl⟩
          rw [setVS]
          go_wp2_with fail
          have BM0 := BMap.made (wr.alloc (.cells #[.int .i64 3, .int .i64 4, .int .i64 5, .int .i64 6, .int .i64 8] 3)) Try.prog 3 4
          have hbm := bAl (bAl hb (.cells #[.int .i64 3, .int .i64 4, .int .i64 5, .int .i64 6, .int .i64 8] 3)) (.map #[] 0)
          have B3 : Blk ((wr.alloc (.cells #[.int .i64 3, .int .i64 4, .int .i64 5, .int .i64 6, .int .i64 8] 3)).alloc (.map #[] 0)) W.heap.size 26 #[.int .i64 0] := (B2.alloc _).alloc _
          have hbsz : W.heap.size < (wr.alloc (.cells #[.int .i64 3, .int .i64 4, .int .i64 5, .int .i64 6, .int .i64 8] 3)).heap.size := (B2.alloc _).lt
          simp only [World.size_alloc] at BM0 hbsz
          generalize (wr.alloc (.cells #[.int .i64 3, .int .i64 4, .int .i64 5, .int .i64 6, .int .i64 8] 3)).alloc (.map #[] 0) = w4 at *
          generalize wr.heap.size + 1 = bm at *
          have hright := Lib.hid (chk_right none l (chk_of_check H0.out))
          clear hb B2 hok hlt
          go_loopw [36] (fun i wq => ∃ k : Nat, k ≤ l.length ∧ i = .int .i64 k ∧ Below W.heap.size W wq ∧ Blk wq W.heap.size 26 #[.int .i64 0] ∧ BMap Try.prog 3 4 wq bm k (settledS (l.take k) by_)) (fun i _ => l.length - (intOf i).toNat)
          case atStart => exact ⟨0, Nat.zero_le _, rfl, hbm, B3, BM0⟩
          case round =>
            clear hbm B3 BM0
            obtain ⟨k2, hkn2, rfl, hb2, B4, BM⟩ := hrel
            by_cases hj : k2 < l.length
            · -- <<
              have hx : ∃ x, l[k2]? = some x := ⟨_, List.getElem?_eq_getElem hj⟩
              obtain ⟨x, hx0⟩ := hx
              have hx := Lib.hid hx0
              clear hx0
              obtain ⟨b2, off2, rfl, hbb2, e0, e1, e2, e3⟩ := Ev_at (hA.below hb2) hj hx.out
              have hrx := (rightB_iff x).1 (hright.out x (List.mem_of_getElem? hx.out))
              have hl0 := hrx.1
              have hl1 := hrx.2.1
              clear hrx
              have hst := Lib.hid (settledS_take hx.out by_)
              go_upto_region 14 with fail
              have BX := Blk.new wr 36 #[.int .i64 x.letter, .int .i64 x.kind, .int .i64 x.time, .int .i64 x.office] _ rfl
              have hb5 := bAl hb2 (.cells #[.int .i64 x.letter, .int .i64 x.kind, .int .i64 x.time, .int .i64 x.office] 36)
              have B5 := B4.alloc (.cells #[.int .i64 x.letter, .int .i64 x.kind, .int .i64 x.time, .int .i64 x.office] 36)
              have BM5 := BM.below (bAl (bRefl _) (.cells #[.int .i64 x.letter, .int .i64 x.kind, .int .i64 x.time, .int .i64 x.office] 36))
              clear e0 e1 e2 e3 hb2 B4 BM
              generalize wr.alloc (.cells #[.int .i64 x.letter, .int .i64 x.kind, .int .i64 x.time, .int .i64 x.office] 36) = w5 at *
              generalize wr.heap.size = bx at *
              have x0 : w5.cell? ⟨bx, 0, none⟩ = some (.int .i64 x.letter) := BX.cell 0
              have x1 : w5.cell? ⟨bx, 1, none⟩ = some (.int .i64 x.kind) := BX.cell 1
              have x2 : w5.cell? ⟨bx, 2, none⟩ = some (.int .i64 x.time) := BX.cell 2
              have hbx := BX.lt
              have hgo : Hid (∀ z : Later, Below W.heap.size W (later w5 z)) := fun z => bCall hb5 (later_below _ z)
              have hgo2 : Hid (∀ z : Later, Blk (later w5 z) W.heap.size 26 #[.int .i64 0]) := fun z => B5.below (later_below _ z) B5.lt
              have hgo3 : Hid (∀ z : Later, BMap Try.prog 3 4 (later w5 z) bm k2 (settledS (l.take k2) by_)) := fun z => BM5.below (later_below _ z)
              have hgo4 : Hid (∀ z : Later, Blk (later w5 z) bx 36 #[.int .i64 x.letter, .int .i64 x.kind, .int .i64 x.time, .int .i64 x.office]) := fun z => BX.below (later_below _ z) BX.lt
              clear B5 BM5 BX
              by_cases h1 : x.letter < by_.length
              · have H1 : Hid (decide (x.letter < (by_.length : Int)) = true) := decide_eq_true h1
                have hlt2 : x.letter.toNat < by_.length := by omega
                have ht : ∃ t, by_[x.letter.toNat]? = some t := ⟨_, List.getElem?_eq_getElem hlt2⟩
                obtain ⟨t, ht0⟩ := ht
                have ht := Lib.hid ht0
                have hgt : Hid (by_[x.letter.toNat]?.getD 0 = t) := by show _ = _; rw [ht0]; rfl
                clear ht0
                obtain ⟨b, off, rfl, hbb, c0⟩ := Int_at hB hlt2 ht.out
                have c1 := (hb5.cell (p := ⟨b, off + x.letter.toNat, none⟩) hbb).trans c0
                have hbr : b < w5.heap.size := Nat.lt_of_lt_of_le hbb hb5.size
                clear c0
                by_cases h2 : x.time ≤ t
                · have H2 : Hid (decide (x.time ≤ t) = true) := decide_eq_true h2
                  cases h3 : settlesB x.kind
                  · have H3 := Lib.hid h3
                    have h3' : bitB 376 x.kind = false := by rw [bit376]; exact h3
                    clear h3
                    refine wp_region_later_lit w5 (bRefl _) (by kernel_rfl) (by kernel_rfl) ?_
                    repeat (go_big_quiet_step (first | (go_at_call 25; exact later_same (set_has 376 _ _ (by omega) (by omega)))))
                    refine wpQuiet_nil ?_
                    rintro _ ⟨z, rfl⟩
                    go_wp2_with fail
                    go_roundw
                    case rel => exact ⟨k2 + 1, by omega, by go_num, hgo.out z, hgo2.out z, by rw [hst.out]; exact BMap.same (fun i => by rw [H3.out]; simp) ((hgo3.out z).mono (by omega))⟩
                    case measure => simp [intOf]; omega
                  · have H3 := Lib.hid h3
                    have h3' : bitB 376 x.kind = true := by rw [bit376]; exact h3
                    clear h3
                    refine wp_region_later_lit w5 (bRefl _) (by kernel_rfl) (by kernel_rfl) ?_
                    repeat (go_big_quiet_step (first | (go_at_call 25; exact later_same (set_has 376 _ _ (by omega) (by omega)))))
                    refine wpQuiet_nil ?_
                    rintro _ ⟨z, rfl⟩
                    have y0 : (later w5 z).cell? ⟨bx, 0, none⟩ = some (.int .i64 x.letter) := (hgo4.out z).cell 0
                    have hsz : W.heap.size < (later w5 z).heap.size := (hgo2.out z).lt
                    have hwf := wf_small hl0 (by omega)
                    go_wp2_with (at_mapUpdate; refine wpList_put_bool rfl _ _ _ 34 rfl (hgo3.out z) Try.underlying3 Try.underlying4 Try.underlying34 rfl (by omega) x.letter true rfl rfl hwf ?_; intro w6 hown6 hgr6)
                    go_roundw
                    case rel =>
                      have hbmW : W.heap.size ≤ bm := by omega
                      refine ⟨k2 + 1, by omega, by go_num, (hgo.out z).grown hgr6 (by omega) (fun q e => by cases e; omega), (hgr6.block _ hsz (by intro e; injection e with e; omega)).trans (hgo2.out z), ?_⟩
                      rw [hst.out]
                      refine BMap.same (fun i => ?_) hown6
                      rw [H1.out, hgt.out, H2.out, H3.out]
                      by_cases hi : i = x.letter
                      · subst hi; simp
                      · have hi' : (x.letter == i) = false := by simp; omega
                        rw [if_neg hi, hi']; simp
                    case measure => simp [intOf]; omega
                · have H2 : Hid (decide (x.time ≤ t) = false) := decide_eq_false h2
                  have h2' : decide (x.time ≤ t) = false := by simpa using h2
                  refine wp_region_later_lit w5 (bRefl _) (by kernel_rfl) (by kernel_rfl) ?_
                  repeat (go_big_quiet_step (first | (go_at_call 25; exact later_same (set_has 376 _ _ (by omega) (by omega)))))
                  refine wpQuiet_nil ?_
                  rintro _ ⟨z, rfl⟩
                  go_wp2_with fail
                  go_roundw
                  case rel => exact ⟨k2 + 1, by omega, by go_num, hgo.out z, hgo2.out z, by rw [hst.out]; exact BMap.same (fun i => by rw [hgt.out, H2.out]; simp) ((hgo3.out z).mono (by omega))⟩
                  case measure => simp [intOf]; omega
              · have H1 : Hid (decide (x.letter < (by_.length : Int)) = false) := decide_eq_false h1
                have h1' : decide (x.letter < (by_.length : Int)) = false := decide_eq_false h1
                refine wp_region_later_lit w5 (bRefl _) (by kernel_rfl) (by kernel_rfl) ?_
                repeat (go_big_quiet_step (first | (go_at_call 25; exact later_same (set_has 376 _ _ (by omega) (by omega)))))
                refine wpQuiet_nil ?_
                rintro _ ⟨z, rfl⟩
                go_wp2_with fail
                go_roundw
                case rel => exact ⟨k2 + 1, by omega, by go_num, hgo.out z, hgo2.out z, by rw [hst.out]; exact BMap.same (fun i => by rw [H1.out]; simp) ((hgo3.out z).mono (by omega))⟩
                case measure => simp [intOf]; omega
              -- >>
            · go_wp2_with fail
              have hfull : Hid (settledS (l.take k2) by_ = settledS l by_) := by show _ = _; rw [List.take_of_length_le (by omega)]
              rw [hfull.out] at BM
              have hsz0 := B4.lt
              have hbm0 := BM.lt
              have hln := Lib.hid (lateUpto_le l by_)
              generalize hz0 : wr.heap.size = sz0
              rw [hz0] at hsz0 hbm0
              have hz0' : sz0 ≤ wr.heap.size := by omega
              clear hz0
              go_loopw [12, 67] (fun v i wq => ∃ j : Nat, j ≤ by_.length ∧ i = .int .i64 j ∧ Below W.heap.size W wq ∧ Blk wq W.heap.size 26 #[.int .i64 0] ∧ BMap Try.prog 3 4 wq bm k2 (settledS l by_) ∧ sz0 ≤ wq.heap.size ∧
                wq.ownsRow sz0 3 1 v (lateUpto l by_ j).length (ints (lateUpto l by_ j))) (fun _ i _ => by_.length - (intOf i).toNat)
              case atStart => exact ⟨0, Nat.zero_le _, rfl, hb2, B4, BM, hz0', World.ownsRow_nil _ _ _ _⟩
              case round =>
                clear hb2 B4 BM hz0'
                obtain ⟨j, hjn, rfl, hb3, B5, BM5, hz, hown⟩ := hrel
                by_cases hj2 : j < by_.length
                · have hx : ∃ t, by_[j]? = some t := ⟨_, List.getElem?_eq_getElem hj2⟩
                  obtain ⟨t, ht0⟩ := hx
                  have hsu : Hid (lateUpto l by_ (j + 1) = lateUpto l by_ j ++ (if settledS l by_ j = true then [] else [(j : Int)])) := by
                    show _ = _
                    rw [lateUpto_succ, settledS_eq l by_ j hj2]
                  clear ht0
                  have hwf := wf_small (i := (j : Int)) (by omega) (by omega)
                  have hlook := BM5.look Try.underlying3 Try.underlying4 Try.underlying34 (by kernel_rfl) hwf
                  cases hs : settledS l by_ j
                  · have HS := Lib.hid hs
                    have hln2 : (lateUpto l by_ j).length ≤ 1000000 := by have := hln.out j; omega
                    have hone : ∀ u ∈ [Value.int .i64 (j : Int)], u.oneCell' = true := by intro u hu; simp at hu; subst hu; rfl
                    go_wp2_with (at_builtin; refine wpList_append1 wr [.int .i64 (j : Int)] (.tmp 74) (.tmp 76) 23 sz0 3 (.int .i64 0) 1 8 u12 (lateUpto l by_ j).length (ints (lateUpto l by_ j)) rfl rfl Try.underlying23 int_info rfl (by omega) (by omega) rfl hown rfl rfl hone hln2 hz ?_; intro v' w' hown4 hbw hgw)
                    go_roundw
                    case rel =>
                      refine ⟨j + 1, by omega, by go_num, hb3.trans (hbw.mono (by omega)), B5.below hbw hsz0, BM5.belowN hbw hbm0, Nat.le_trans hz hbw.size, ?_⟩
                      rw [hsu.out, HS.out]
                      simpa [ints] using hown4
                    case measure => simp [intOf]; omega
                  · have HS := Lib.hid hs
                    go_wp2_with fail
                    go_roundw
                    case rel =>
                      refine ⟨j + 1, by omega, by go_num, hb3, B5, BM5, hz, ?_⟩
                      rw [hsu.out, HS.out]
                      simpa using hown
                    case measure => simp [intOf]; omega
                · obtain ⟨A', c', hv, hrd⟩ := Rd.of_own (ownsRow_setCell_below hown (a := ⟨W.heap.size, 0, none⟩) hsz0 (.int .i64 0))
                  have hk : j = by_.length := by omega
                  subst hk
                  subst hv
                  have q0 : wr.cell? ⟨W.heap.size, 0, none⟩ = some (.int .i64 0) := B5.cell 0
                  have q1 := B5.frozen 0
                  go_wp2_with fail
                  have e1 : lateL l by_ = lateUpto l by_ by_.length := by rw [hsk.out, if_pos hall.out]
                  have e2 : lateE l by_ = 0 := by rw [hse.out, if_pos hall.out]
                  rw [e1, e2]
                  refine door_idle _ _ (.tuple #[.slice A' (lateUpto l by_ by_.length).length c', .int .i64 0]) ?_ ⟨A', c', rfl, bSet hb3 (Nat.le_refl _) _, hrd⟩
                  have e3 := (B5.set_ 0 (.int .i64 0)).cell 0
                  simp [results, Try.results12, go_sem, e3]
    · have hm2 : ¬ by_.length ≤ 4096 := by have h := of_decide_eq_false ht; omega
      exact Hpan.out _ 1 _ hbW B1 (by unfold lateL; rw [if_pos H0.out, if_neg hm2]) (by unfold lateE; rw [if_pos H0.out, if_neg hm2]) rfl rfl
  · exact Hpan.out _ (check l) _ hbW B1 (if_neg h0) (if_neg h0) rfl rfl

end Go.Proofs.Ytcadkfaaogclfaa
