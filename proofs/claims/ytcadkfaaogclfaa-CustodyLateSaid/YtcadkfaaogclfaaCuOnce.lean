/-
  CustodyOnce: of events that are accepted, each letter has one that posts it, at most one that ends it. The plain law, the walk and the claim.
-/
import Derived.Test.YtcadkfaaogclfaaCuSpec
namespace Go.Proofs.Ytcadkfaaogclfaa
open Go.ChangeShapes Go.WideShapes Go.ChangeAt Go.RowKit

theorem check_two {l : List Ev} (hn : l.length ≤ 4096) : check l = 0 ∨ check l = 460 := by
  unfold check; rw [if_neg (by omega)]; split <;> simp

theorem chk_nth : ∀ {l : List Ev} {p : Option Ev} {k : Nat} {x : Ev}, chk p l = true → l[k]? = some x → nextB (if k = 0 then p else l[k - 1]?) x = true
  | [], _, _, _, _, h => by cases h
  | y :: l, p, 0, x, h, hx => by
    have e : y = x := by simpa using hx
    subst e
    have h' : (nextB p y && chk (some y) l) = true := h
    simp at h'
    exact h'.1
  | y :: l, p, 1, x, h, hx => by
    have h' : (nextB p y && chk (some y) l) = true := h
    simp at h'
    have := chk_nth (k := 0) h'.2 (by simpa using hx)
    simpa using this
  | y :: l, p, k + 2, x, h, hx => by
    have h' : (nextB p y && chk (some y) l) = true := h
    simp at h'
    have := chk_nth (k := k + 1) h'.2 (by simpa using hx)
    simpa using this
theorem chk_next {l : List Ev} {k : Nat} {x : Ev} (h : chk none l = true) (hx : l[k]? = some x) : nextB (prevOf l k) x = true := chk_nth h hx
theorem next_all {p : Option Ev} {x : Ev} (h : nextB p x = true) : timeB p x = true ∧ orderB p x = true ∧ followsB (bfOf p x) x.kind = true ∧ rightB x = true := by
  unfold nextB at h; simp at h; exact ⟨h.1, h.2.1, h.2.2.1, h.2.2.2⟩
theorem chk_okP {l : List Ev} {k : Nat} (h : chk none l = true) (hk : k ≤ l.length) : okP (prevOf l k) := by
  intro y hy
  rcases k with _ | k
  · cases hy
  · have hlt : k < l.length := by omega
    rw [prevOf_succ l k hlt] at hy
    have e : l[k]? = some y := by rw [List.getElem?_eq_getElem hlt]; exact hy
    exact follows_kind (next_all (chk_next h e)).2.2.1

def endB (k : Int) : Bool := k == 3 || k == 5 || k == 7 || k == 8
/-- What the two sets of letters hold behind the event p. -/
def OnceI (p : Option Ev) (E D : Int → Bool) : Prop :=
  match p with
  | none => ∀ j, E j = false ∧ D j = false
  | some y => (∀ j, y.letter < j → E j = false ∧ D j = false) ∧ E y.letter = endB y.kind ∧ ((y.kind = 1 ∨ y.kind = 2 ∨ y.kind = 4) → D y.letter = false) ∧ (y.kind = 6 → D y.letter = true)
def setIf (E : Int → Bool) (a : Int) : Int → Bool := fun j => if j = a then true else E j
def firstB (p : Option Ev) (x : Ev) : Bool :=
  match p with
  | none => true
  | some y => y.letter != x.letter

theorem once_step {p : Option Ev} {x : Ev} {E D : Int → Bool} (hI : OnceI p E D) (ho : okP p) (hn : nextB p x = true) :
    E x.letter = false ∧ (x.kind = 6 → D x.letter = false) ∧ (x.kind = 7 → D x.letter = true) ∧ (1 ≤ x.kind ∧ x.kind ≤ 8) ∧ firstB p x = (x.kind == 1) ∧
    ((x.kind = 3 ∨ x.kind = 5 ∨ x.kind = 7 ∨ x.kind = 8) → OnceI (some x) (setIf E x.letter) D) ∧ (x.kind = 6 → OnceI (some x) E (setIf D x.letter)) ∧ ((x.kind = 1 ∨ x.kind = 2 ∨ x.kind = 4) → OnceI (some x) E D) := by
  obtain ⟨_, h2, h3, _⟩ := next_all hn
  have hk := follows_kind h3
  have key : (x.kind = 1 ∧ firstB p x = true ∧ (∀ j, x.letter ≤ j → E j = false ∧ D j = false)) ∨ (∃ y, p = some y ∧ y.letter = x.letter ∧ followsB y.kind x.kind = true ∧ firstB p x = false) := by
    cases p with
    | none =>
      left
      have h3' : followsB 0 x.kind = true := h3
      rw [follows_iff] at h3'
      exact ⟨by omega, rfl, fun j _ => hI j⟩
    | some y =>
      by_cases e : y.letter = x.letter
      · right
        refine ⟨y, rfl, e, ?_, ?_⟩
        · rw [bfOf_eq e] at h3; exact h3
        · simp [firstB, e]
      · left
        rw [bfOf_ne e, follows_iff] at h3
        have h2' : y.letter ≤ x.letter := by simpa [orderB] using h2
        refine ⟨by omega, by simpa [firstB] using e, fun j hj => hI.1 j (by omega)⟩
  rcases key with ⟨k1, hf, hz⟩ | ⟨y, rfl, e, hfo, hf⟩
  · have hE := (hz x.letter (by omega)).1
    have hD := (hz x.letter (by omega)).2
    refine ⟨hE, by omega, by omega, by omega, by rw [hf, k1]; rfl, by omega, by omega, fun _ => ⟨fun j hj => hz j (by omega), ?_, fun _ => hD, by omega⟩⟩
    rw [hE, k1]; rfl
  · obtain ⟨i1, i2, i3, i4⟩ := hI
    rw [e] at i1 i2 i3 i4
    rw [follows_iff] at hfo
    have hy := ho y rfl
    have hyk : y.kind = 1 ∨ y.kind = 2 ∨ y.kind = 4 ∨ y.kind = 6 := by omega
    have hye : endB y.kind = false := by rcases hyk with h | h | h | h <;> (rw [h]; rfl)
    have hE : E x.letter = false := by rw [i2, hye]
    have hx1 : x.kind ≠ 1 := by omega
    refine ⟨hE, fun h => i3 (by omega), fun h => i4 (by omega), hk, ?_, fun h => ?_, fun h => ?_, fun h => ?_⟩
    · rw [hf]; symm; simpa using hx1
    · refine ⟨fun j hj => ?_, ?_, by omega, by omega⟩
      · have := i1 j hj
        simp only [setIf, if_neg (show ¬ j = x.letter by omega)]; exact this
      · simp only [setIf, if_pos trivial]
        rcases h with h | h | h | h <;> (rw [h]; rfl)
    · refine ⟨fun j hj => ?_, ?_, by omega, fun _ => by simp [setIf]⟩
      · have := i1 j hj
        simp only [setIf, if_neg (show ¬ j = x.letter by omega)]; exact this
      · rw [hE, h]; rfl
    · refine ⟨i1, ?_, fun _ => i3 (by omega), by omega⟩
      rw [hE]; rcases h with h | h | h <;> (rw [h]; rfl)

set_option maxRecDepth 100000 in
set_option maxHeartbeats 4000000 in
theorem once_walk (A : Option Addr) (c : Nat) (l : List Ev) (W : World) (hA : Rd W W.heap.size 4 A l.length (l.flatMap Ev.cells)) (hn : l.length ≤ 9223372036854775807) :
    Calls Try.prog 4 #[.slice A l.length c] W (Ret (.bool true) W) := by
  have hmm := @run_makeMap Try.prog
  go_enter Try.func4, Try.ntmps4
  go_wp2_with fail
  refine (sane_any W).mono ?_
  rintro e w ⟨rfl, hb⟩
  by_cases hfew : l.length ≤ 200
  case neg =>
    go_wp2_with fail
    go_ret
    exact ⟨rfl, hb⟩
  case pos =>
    go_wp2_with fail
    refine (check_any A c l _ (hA.more_later hb)).mono ?_
    rintro e w1 ⟨rfl, b1⟩
    replace hb := bCall hb b1
    clear b1
    by_cases h0 : check l = 0
    case neg =>
      have h1 : check l = 460 := (check_two (by omega)).resolve_left h0
      clear h0
      rw [h1]
      go_wp2_with fail
      go_ret
      exact ⟨rfl, hb⟩
    case pos =>
      have hc := Lib.hid (chk_of_check h0)
      rw [h0]
      clear h0
      go_wp2_with fail
      have ME := (BMap.made w1 Try.prog 3 4).below (bAl (bRefl _) (.map #[] 0))
      have MD := BMap.made (w1.alloc (.map #[] 0)) Try.prog 3 4
      have hbm := bAl (bAl hb (.map #[] 0)) (.map #[] 0)
      have hz1 : W.heap.size ≤ w1.heap.size := hb.size
      simp only [World.size_alloc] at MD
      generalize (w1.alloc (.map #[] 0)).alloc (.map #[] 0) = w2 at *
      generalize w1.heap.size = be at *
      have hi0 : Hid (OnceI none (fun _ => false) (fun _ => false)) := fun j => ⟨rfl, rfl⟩
      clear hb
      go_loopw [24] (fun i wr => ∃ (k : Nat) (E D : Int → Bool), k ≤ l.length ∧ i = .int .i64 k ∧ Below W.heap.size W wr ∧ BMap Try.prog 3 4 wr be k E ∧ BMap Try.prog 3 4 wr (be + 1) k D ∧ Hid (OnceI (prevOf l k) E D)) (fun i _ => l.length - (intOf i).toNat)
      case atStart => exact ⟨0, _, _, Nat.zero_le _, rfl, hbm, ME, MD, hi0⟩
      case round =>
        clear hbm ME MD hi0
        obtain ⟨k, E, D, hkn, rfl, hb2, ME, MD, hI⟩ := hrel
        by_cases hj : k < l.length
        · have hx : ∃ x, l[k]? = some x := ⟨_, List.getElem?_eq_getElem hj⟩
          obtain ⟨x, hx0⟩ := hx
          have hx := Lib.hid hx0
          clear hx0
          obtain ⟨b, off, rfl, hbb, e0, e1, e2, e3⟩ := Ev_at (hA.below hb2) hj hx.out
          have hnx := chk_next hc.out hx.out
          obtain ⟨s1, s2, s3, s4, s5, s6, s7, s8⟩ := once_step hI.out (chk_okP hc.out hkn) hnx
          have hp1 : prevOf l (k + 1) = some x := (lastOf_some hx.out).2
          rw [← hp1] at s6 s7 s8
          have hr := (rightB_iff x).1 (next_all hnx).2.2.2
          have hwf := wf_small (i := x.letter) hr.1 (by omega)
          have S2 := Lib.hid s2
          have S3 := Lib.hid s3
          have S6 := Lib.hid s6
          have S7 := Lib.hid s7
          have S8 := Lib.hid s8
          have hne := Lib.hid (next_all hnx)
          have s5' := Lib.hid s5
          clear s2 s3 s6 s7 s8 hr hnx hp1 s5
          go_upto_region 12 with fail
          have BX := Blk.new wr 36 #[.int .i64 x.letter, .int .i64 x.kind, .int .i64 x.time, .int .i64 x.office] _ rfl
          have hb5 := bAl hb2 (.cells #[.int .i64 x.letter, .int .i64 x.kind, .int .i64 x.time, .int .i64 x.office] 36)
          have ME5 := ME.below (bAl (bRefl _) (.cells #[.int .i64 x.letter, .int .i64 x.kind, .int .i64 x.time, .int .i64 x.office] 36))
          have MD5 := MD.below (bAl (bRefl _) (.cells #[.int .i64 x.letter, .int .i64 x.kind, .int .i64 x.time, .int .i64 x.office] 36))
          clear e0 e1 e2 e3 ME MD hb2
          generalize wr.alloc (.cells #[.int .i64 x.letter, .int .i64 x.kind, .int .i64 x.time, .int .i64 x.office] 36) = w5 at *
          generalize wr.heap.size = bx at *
          have x0 : w5.cell? ⟨bx, 0, none⟩ = some (.int .i64 x.letter) := BX.cell 0
          have x1 : w5.cell? ⟨bx, 1, none⟩ = some (.int .i64 x.kind) := BX.cell 1
          have x2 : w5.cell? ⟨bx, 2, none⟩ = some (.int .i64 x.time) := BX.cell 2
          have hbx := BX.lt
          have hlook : ∀ z, (Instr.lookup 34 (.map (some be)) (.int .i64 x.letter) false).run Try.prog (later w5 z) = .ok (.bool false) (later w5 z) := by
            intro z
            rw [(ME5.below (later_below _ z)).look Try.underlying3 Try.underlying4 Try.underlying34 (by kernel_rfl) hwf, s1]
          have hgo : Hid (∀ z : Later, Below W.heap.size W (later w5 z)) := fun z => bCall hb5 (later_below _ z)
          have hgo2 : Hid (∀ z : Later, BMap Try.prog 3 4 (later w5 z) be k E) := fun z => ME5.below (later_below _ z)
          have hgo3 : Hid (∀ z : Later, BMap Try.prog 3 4 (later w5 z) (be + 1) k D) := fun z => MD5.below (later_below _ z)
          have hgo4 : Hid (∀ z : Later, Blk (later w5 z) bx 36 #[.int .i64 x.letter, .int .i64 x.kind, .int .i64 x.time, .int .i64 x.office]) := fun z => BX.below (later_below _ z) BX.lt
          clear BX ME5 MD5
          have hpk : (k = 0 ∧ prevOf l k = none) ∨ (0 < k ∧ ∃ y, prevOf l k = some y ∧ w5.cell? ⟨b, off + (k - 1) * 4, none⟩ = some (.int .i64 y.letter) ∧ w5.cell? ⟨b, off + (k - 1) * 4 + 2, none⟩ = some (.int .i64 y.time)) := by
            rcases prev_at hkn (rfl : prevOf l k = prevOf l k) with h | ⟨hk, y, h1, h2⟩
            · exact .inl h
            · obtain ⟨a0, a1, a2, _⟩ := Ev_cells (hA.below hb5) (k := k - 1) (by omega) h2
              exact .inr ⟨hk, y, h1, a0, a2⟩
          have hbw : b < w5.heap.size := Nat.lt_of_lt_of_le hbb hb5.size
          go_cut [8] (fun s8 wc => s8 = .bool (firstB (prevOf l k) x) ∧ ∃ z, wc = later w5 z)
          case first =>
            rcases hpk with ⟨rfl, hp⟩ | ⟨hk0, y, hp, y0, y2⟩
            · have hp := Lib.hid hp
              refine wp_region_later_lit w5 (bRefl _) (by kernel_rfl) (by kernel_rfl) ?_
              repeat (go_big_quiet_step (fail))
              refine wpQuiet_nil ?_
              rintro _ ⟨z, rfl⟩
              go_wp2_with fail
              go_meet
              exact ⟨by rw [hp.out]; rfl, _, rfl⟩
            · have hp := Lib.hid hp
              have hk' : ((k : Int) == 0) = false := by simp; omega
              refine wp_region_later_lit w5 (bRefl _) (by kernel_rfl) (by kernel_rfl) ?_
              repeat (go_big_quiet_step (fail))
              refine wpQuiet_nil ?_
              rintro _ ⟨z, rfl⟩
              go_wp2_with fail
              go_meet
              exact ⟨by rw [hp.out]; rfl, _, rfl⟩
          case rest =>
            obtain ⟨rfl, z1, rfl⟩ := hcut
            rw [s5'.out]
            cases hk1 : x.kind == 1
            · go_upto_region 13 with fail
              go_cut [82] (fun s82 wc => s82 = .bool false ∧ ∃ z, wc = later w5 z)
              case first =>
                rcases hpk with ⟨rfl, hp⟩ | ⟨hk0, y, hp, y0, y2⟩
                · have h := s5'.out
                  rw [hp, hk1] at h
                  cases h
                · have hk' : ((k : Int) == 0) = false := by simp; omega
                  have hne1 := hne.out
                  rw [hp] at hne1
                  have ho : ¬ x.letter < y.letter := by have h := hne1.2.1; simp [orderB] at h; omega
                  have hyx : y.letter = x.letter := by
                    have h := s5'.out
                    rw [hp, hk1] at h
                    simpa [firstB] using h
                  have ht : ¬ x.time < y.time := by
                    have h := hne1.1
                    rw [timeB_eq hyx] at h
                    simp at h
                    omega
                  have hp := Lib.hid hp
                  clear hne1 hyx
                  refine wp_region_later_lit w5 (later_below _ _) (by kernel_rfl) (by kernel_rfl) ?_
                  repeat (go_big_quiet_step (fail))
                  refine wpQuiet_nil ?_
                  rintro _ ⟨z, rfl⟩
                  go_wp2_with fail
                  go_meet
                  exact ⟨rfl, _, rfl⟩
              case rest =>
                obtain ⟨rfl, z2, rfl⟩ := hcut
                clear hlook hpk x0 x1 x2
                have x0 := (hgo4.out z2).cell 0
                have x1 := (hgo4.out z2).cell 1
                simp at x0 x1
                have ME := hgo2.out z2
                have MD := hgo3.out z2
                have hb := hgo.out z2
                clear hgo2 hgo3 hgo hgo4 hbb hbw hb5 hbx
                have hlk := MD.look Try.underlying3 Try.underlying4 Try.underlying34 (by kernel_rfl) hwf
                have hzW : W.heap.size ≤ (later w5 z2).heap.size := hb.size
                generalize later w5 z2 = w6 at *
                have hbe := MD.lt
                have hks : (x.kind = 3 ∨ x.kind = 5 ∨ x.kind = 8) ∨ (x.kind = 2 ∨ x.kind = 4) ∨ x.kind = 6 ∨ x.kind = 7 := by
                  have : ¬ x.kind = 1 := by simpa using hk1
                  omega
                clear s4 hk1
                rcases hks with hk | hk | hk | hk
                · have H6 := S6.out (by omega)
                  have HI : Hid (OnceI (prevOf l (k + 1)) (setIf E x.letter) D) := H6
                  clear H6 S6 S7 S8 S2 S3
                  rcases hk with hk | hk | hk
                  all_goals
                    rw [hk] at x1
                    go_wp2_with (at_mapUpdate; refine wpList_put_bool rfl _ _ _ 34 rfl ME Try.underlying3 Try.underlying4 Try.underlying34 rfl (by omega) x.letter true rfl rfl hwf ?_; intro w7 hown7 hgr7)
                    go_roundw
                    case rel => exact ⟨k + 1, _, _, by omega, by go_num, hb.grown hgr7 hzW (fun q e => by cases e; omega), hown7, (MD.grown hgr7 (by intro e; injection e with e; omega)).mono (by omega), HI⟩
                    case measure => simp [intOf]; omega
                · have H8 := S8.out (by omega)
                  have HI : Hid (OnceI (prevOf l (k + 1)) E D) := H8
                  clear H8 S6 S7 S8 S2 S3
                  rcases hk with hk | hk
                  all_goals
                    rw [hk] at x1
                    go_wp2_with fail
                    go_roundw
                    case rel => exact ⟨k + 1, _, _, by omega, by go_num, hb, ME.mono (by omega), MD.mono (by omega), HI⟩
                    case measure => simp [intOf]; omega
                · have H7 := S7.out hk
                  have HI : Hid (OnceI (prevOf l (k + 1)) E (setIf D x.letter)) := H7
                  have H2 := S2.out hk
                  rw [H2] at hlk
                  clear H2 H7 S6 S7 S8 S2 S3
                  rw [hk] at x1
                  go_wp2_with (at_mapUpdate; refine wpList_put_bool rfl _ _ _ 34 rfl MD Try.underlying3 Try.underlying4 Try.underlying34 rfl (by omega) x.letter true rfl rfl hwf ?_; intro w7 hown7 hgr7)
                  go_roundw
                  case rel => exact ⟨k + 1, _, _, by omega, by go_num, hb.grown hgr7 hzW (fun q e => by cases e; omega), (ME.grown hgr7 (by intro e; injection e with e; omega)).mono (by omega), hown7, HI⟩
                  case measure => simp [intOf]; omega
                · have H6 := S6.out (by omega)
                  have HI : Hid (OnceI (prevOf l (k + 1)) (setIf E x.letter) D) := H6
                  have H2 := S3.out hk
                  rw [H2] at hlk
                  clear H2 H6 S6 S7 S8 S2 S3
                  rw [hk] at x1
                  go_wp2_with (at_mapUpdate; refine wpList_put_bool rfl _ _ _ 34 rfl ME Try.underlying3 Try.underlying4 Try.underlying34 rfl (by omega) x.letter true rfl rfl hwf ?_; intro w7 hown7 hgr7)
                  go_roundw
                  case rel => exact ⟨k + 1, _, _, by omega, by go_num, hb.grown hgr7 hzW (fun q e => by cases e; omega), hown7, (MD.grown hgr7 (by intro e; injection e with e; omega)).mono (by omega), HI⟩
                  case measure => simp [intOf]; omega
            · go_upto_region 13 with fail
              go_cut [82] (fun s82 wc => s82 = .bool false ∧ ∃ z, wc = later w5 z)
              case first =>
                rcases hpk with ⟨rfl, hp⟩ | ⟨hk0, y, hp, y0, y2⟩
                · have hp := Lib.hid hp
                  refine wp_region_later_lit w5 (later_below _ _) (by kernel_rfl) (by kernel_rfl) ?_
                  repeat (go_big_quiet_step (fail))
                  refine wpQuiet_nil ?_
                  rintro _ ⟨z, rfl⟩
                  go_wp2_with fail
                  go_meet
                  exact ⟨rfl, _, rfl⟩
                · have hk' : ((k : Int) == 0) = false := by simp; omega
                  have hne1 := hne.out
                  rw [hp] at hne1
                  have ho : ¬ x.letter < y.letter := by have h := hne1.2.1; simp [orderB] at h; omega
                  have hp := Lib.hid hp
                  clear hne1
                  refine wp_region_later_lit w5 (later_below _ _) (by kernel_rfl) (by kernel_rfl) ?_
                  repeat (go_big_quiet_step (fail))
                  refine wpQuiet_nil ?_
                  rintro _ ⟨z, rfl⟩
                  go_wp2_with fail
                  go_meet
                  exact ⟨rfl, _, rfl⟩
              case rest =>
                obtain ⟨rfl, z2, rfl⟩ := hcut
                have k1 : x.kind = 1 := by simpa using hk1
                have H8 := S8.out (by omega)
                have HI : Hid (OnceI (prevOf l (k + 1)) E D) := H8
                clear hlook hpk x0 x1 x2
                have x1 := (hgo4.out z2).cell 1
                simp at x1
                have ME := hgo2.out z2
                have MD := hgo3.out z2
                have hb := hgo.out z2
                clear hgo2 hgo3 hgo hgo4 hbb hbw hb5 hbx H8 S6 S7 S8 S2 S3
                generalize later w5 z2 = w6 at *
                clear hk1
                rw [k1] at x1
                go_wp2_with fail
                go_roundw
                case rel => exact ⟨k + 1, _, _, by omega, by go_num, hb, ME.mono (by omega), MD.mono (by omega), HI⟩
                case measure => simp [intOf]; omega
        · go_wp2_with fail
          go_ret
          exact ⟨rfl, hb2⟩

set_option maxRecDepth 100000 in
theorem once_lifted (os : Os) (started : os.Started) (H : Type) (enc : TypeId × Value → H) :
    ReturnsInHanded {} Try.checked os 4 .any (Rows.custodyOnceSpec.pre6 enc Try.prog Try.f4 Rows.custodyOnceRow.domain false) (Rows.custodyOnceSpec.post enc Try.prog Try.f4 false true false false) := by
  refine returnsInHanded_of_change (C := Try.checked) own_knob started (by kernel_rfl) Try.func4
    (ChangeSpec.witness6 (enc := enc) (C := Try.checked) false ⟨#[], #[.slice none 0 0], []⟩ 8 (by kernel_rfl) (by kernel_rfl) (by kernel_rfl) (by kernel_rfl)) ?_
  intro W base args ds gs before hval0 hW hcnd _
  have hval : ∀ (j : Nat) t v, Try.f4.params[j]? = some t → args[j]? = some v → Value.okWide Try.prog W .any base t v := hval0
  have hW' := hW
  obtain ⟨p, q, hA0, hV, rfl, hfz, hnd⟩ := hW
  have hA : DataW.TrodAll enc Try.prog W 0 (fun _ => true) true Try.f4.params.toList args.toList ds p := hA0
  rw [Try.params4] at hA hval
  obtain ⟨v0, d0, rfl, rfl, h0⟩ := trodAll_one hA
  obtain ⟨rfl, rfl⟩ := trodVars_none hV
  obtain ⟨A, n, c, rfl⟩ := okWide_slice Try.underlying22 (hval 0 22 v0 rfl rfl)
  have k0 := h0
  obtain ⟨f0, hf0⟩ := h0
  obtain ⟨A', n', c', l, e0, hn, hn2, hAr⟩ := open_events hf0
  simp [Value.cells] at e0
  obtain ⟨rfl, rfl, rfl⟩ := e0
  clear hA0 hval0
  subst hn
  unfold maxLen at hn2
  refine (once_walk A c l W hAr hn2).mono fun e W' ⟨he, bel⟩ => ?_
  subst he
  exact ⟨_, rfl, _, _, _, [], _, [], hW', trodAll_mk1 (shut_bool Try.underlying4 _), (trodAll_mk1 (arg_stays (by kernel_rfl) (of_decide_eq_true (by kernel_rfl)) k0 bel)), rfl, bel.frame _, fun h => by cases h⟩

theorem custodyOnce_holds : Rows.CustodyOnceSaid :=
  OpenClaim.holds_of_wide 4 Try.f4 rfl rfl rfl rfl rfl rfl rfl ⟨rfl, rfl, rfl, rfl, rfl⟩ rfl rfl rfl rfl rfl (by kernel_rfl) Try.func4 (by kernel_rfl)
    (of_decide_eq_true (by kernel_rfl)) (by unfold Func.isWrapper; first | (rw [if_pos (by decide +kernel)]; kernel_rfl) | (rw [if_neg (by decide +kernel)]; exact ⟨rfl, rfl⟩))
    (fun os started H enc _ => once_lifted os started H enc)
#print axioms custodyOnce_holds

end Go.Proofs.Ytcadkfaaogclfaa
