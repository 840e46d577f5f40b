/-
  Custody: follow, walked.
-/
import Derived.Test.YtcadkfaaogclfaaCuA
import Derived.Deep.RegionWith
import Derived.Outline
import Derived.Deep.DeepCutAuto
namespace Go.Proofs.Ytcadkfaaogclfaa
open Go.RowKit

def NeedPost (b : Bool) (e : Int) (w : World) (r : Ending) (w' : World) : Prop :=
  w = w' ∧ ((b = true ∧ r = .returned (.tuple #[])) ∨ (b = false ∧ r = .panicked [{ v := .iface 26 (.int .i64 e), recovered := false }]))

set_option maxHeartbeats 400000 in
theorem need_any (b : Bool) (e : Int) (w : World) : Calls Try.prog 21 #[.bool b, .int .i64 e] w (NeedPost b e w) := by
  cases b
  · go_enter Try.func21, Try.ntmps21
    go_wp2
    exact ⟨rfl, rfl, .inr ⟨rfl, rfl⟩⟩
  · exact (need_ok e w).mono fun r w' ⟨h, hb⟩ => ⟨hb, .inl ⟨rfl, h⟩⟩

/-- Ends with v if e is 0, else panics with e. -/
def Fin (e : Int) (v : Value) (w : World) (r : Ending) (w' : World) : Prop :=
  Below w.heap.size w w' ∧ ((e = 0 ∧ r = .returned v) ∨ (e ≠ 0 ∧ r = .panicked [{ v := .iface 26 (.int .i64 e), recovered := false }]))

def spansCells : Array Value := #[.int .i64 0, .int .i64 1048576, .int .i64 0, .int .i64 2097151, .int .i64 0, .int .i64 23, .int .i64 (-1), .int .i64 (-1)]

def FollowRel (l : List Ev) (W : World) (i : Value) (wr : World) : Prop :=
  ∃ k : Nat, k ≤ l.length ∧ i = .int .i64 k ∧ Below W.heap.size W wr ∧ Blk wr W.heap.size 57 spansCells ∧
    Blk wr (W.heap.size + 1) 36 (lastOf l k).cells.toArray ∧ okP (prevOf l k) ∧ Hid (chk none l = chk (prevOf l k) (l.drop k))

theorem setV17 : setV [.int .i64 1, .int .i64 7] = 130 := by kernel_rfl

/-- What lies in memory when the office is looked at. -/
def FMem (w : World) (bs bl bx bo : Nat) (y x : Ev) (lo hi : Int) : Prop :=
  Blk w bs 57 spansCells ∧ Blk w bl 36 y.cells.toArray ∧ Blk w bx 36 x.cells.toArray ∧ Blk w bo 47 #[.int .i64 lo, .int .i64 hi]
theorem FMem.below {w w' : World} {bs bl bx bo : Nat} {y x : Ev} {lo hi : Int} (h : FMem w bs bl bx bo y x lo hi) (hb : Below w.heap.size w w') : FMem w' bs bl bx bo y x lo hi :=
  ⟨h.1.below hb h.1.lt, h.2.1.below hb h.2.1.lt, h.2.2.1.below hb h.2.2.1.lt, h.2.2.2.below hb h.2.2.2.lt⟩
theorem FMem.cells {w : World} {bs bl bx bo : Nat} {y x : Ev} {lo hi : Int} (h : FMem w bs bl bx bo y x lo hi) :
    w.cell? ⟨bs, 0, none⟩ = some (.int .i64 0) ∧ w.cell? ⟨bs, 1, none⟩ = some (.int .i64 1048576) ∧ w.cell? ⟨bs, 2, none⟩ = some (.int .i64 0) ∧ w.cell? ⟨bs, 3, none⟩ = some (.int .i64 2097151) ∧
    w.cell? ⟨bs, 6, none⟩ = some (.int .i64 (-1)) ∧ w.cell? ⟨bs, 7, none⟩ = some (.int .i64 (-1)) ∧
    w.cell? ⟨bx, 0, none⟩ = some (.int .i64 x.letter) ∧ w.cell? ⟨bx, 1, none⟩ = some (.int .i64 x.kind) ∧ w.cell? ⟨bx, 2, none⟩ = some (.int .i64 x.time) ∧ w.cell? ⟨bx, 3, none⟩ = some (.int .i64 x.office) ∧
    w.cell? ⟨bo, 0, none⟩ = some (.int .i64 lo) ∧ w.cell? ⟨bo, 1, none⟩ = some (.int .i64 hi) :=
  ⟨h.1.cell 0, h.1.cell 1, h.1.cell 2, h.1.cell 3, h.1.cell 6, h.1.cell 7, h.2.2.1.cell 0, h.2.2.1.cell 1, h.2.2.1.cell 2, h.2.2.1.cell 3, h.2.2.2.cell 0, h.2.2.2.cell 1⟩

theorem FMem.lts {w : World} {bs bl bx bo : Nat} {y x : Ev} {lo hi : Int} (h : FMem w bs bl bx bo y x lo hi) : bs < w.heap.size ∧ bl < w.heap.size ∧ bx < w.heap.size ∧ bo < w.heap.size :=
  ⟨h.1.lt, h.2.1.lt, h.2.2.1.lt, h.2.2.2.lt⟩

theorem fin_bad {l : List Ev} {W w' : World} {v : Value} (hn : l.length ≤ 4096) (h : chk none l = false) (hb : Below W.heap.size W w') :
    Fin (check l) v W (.panicked [{ v := .iface 26 (.int .i64 460), recovered := false }]) w' := by
  rw [check_bad hn h]; exact ⟨hb, .inr ⟨by decide, rfl⟩⟩

set_option maxRecDepth 100000 in
set_option maxHeartbeats 4000000 in
theorem follow_any (A : Option Addr) (c : Nat) (l : List Ev) (W : World) (hA : Rd W W.heap.size 4 A l.length (l.flatMap Ev.cells)) :
    Calls Try.prog 20 #[.slice A l.length c] W (Fin (check l) (.tuple #[]) W) := by
  by_cases hn : l.length ≤ 4096
  · go_enter Try.func20, Try.ntmps20
    go_wp2_with fail
    refine (need_any _ _ _).mono ?_
    rintro e w' ⟨rfl, ⟨hb, rfl⟩ | ⟨hb, rfl⟩⟩
    case inr => simp at hb; omega
    clear hb
    go_wp2_with fail
    go_loopw [19] (fun i wr => FollowRel l W i wr) (fun i _ => l.length - (intOf i).toNat)
    case atStart =>
      refine ⟨0, Nat.zero_le _, rfl, bAl (bAl (bRefl _) _) _, (Blk.new _ _ _ _ rfl).alloc _, by exact Blk.new _ _ _ _ (by simp), ?_, Lib.hid rfl⟩
      intro y hy; cases hy
    case round =>
      obtain ⟨k, hkn, rfl, hb, hB0, hB1, hok, hc⟩ := hrel
      by_cases hlt : k < l.length
      · have hx : ∃ x, l[k]? = some x := ⟨_, List.getElem?_eq_getElem hlt⟩
        obtain ⟨x, hx0⟩ := hx
        have hx := Lib.hid hx0
        clear hx0
        obtain ⟨b, off, rfl, hbb, c0, c1, c2, c3⟩ := Ev_at (hA.below hb) hlt hx.out
        have hy : ∃ y, Hid (lastOf l k = y) := ⟨_, Lib.hid rfl⟩
        obtain ⟨y, hy⟩ := hy
        have hp : ∃ p, Hid (prevOf l k = p) := ⟨_, Lib.hid rfl⟩
        obtain ⟨p, hp⟩ := hp
        have hok' : okP p := by rw [← hp.out]; exact hok
        have e0 : wr.cell? ⟨W.heap.size + 1, 0, none⟩ = some (.int .i64 y.letter) := by rw [hB1.cell 0, hy.out]; rfl
        have e1 : wr.cell? ⟨W.heap.size + 1, 1, none⟩ = some (.int .i64 y.kind) := by rw [hB1.cell 1, hy.out]; rfl
        have e2 : wr.cell? ⟨W.heap.size + 1, 2, none⟩ = some (.int .i64 y.time) := by rw [hB1.cell 2, hy.out]; rfl
        have hlt1 := hB1.lt
        have hpk : (k = 0 ∧ p = none) ∨ (0 < k ∧ p = some y) := by
          have h := prev_cases hkn
          rw [hp.out, hy.out] at h
          exact h
        clear hok
        have hNo : ∀ w', nextB p x = false → Below W.heap.size W w' → Fin (check l) (.tuple #[]) W (.panicked [{ v := .iface 26 (.int .i64 460), recovered := false }]) w' :=
          fun w' h hb' => fin_bad hn (chk_bad hx.out hp.out hc.out h) hb'
        have HNo := Lib.hid hNo
        clear hNo
        go_upto_region 7 with fail
        go_cut [32] (fun s32 wc => s32 = .bool (sameB p x) ∧ wc = wr.alloc (.cells #[.int .i64 x.letter, .int .i64 x.kind, .int .i64 x.time, .int .i64 x.office] 36))
        case first =>
          -- <<
          rcases hpk with ⟨hk, rfl⟩ | ⟨hk, rfl⟩
          · have hk' : ¬ 0 < k := by omega
            go_wp2_with fail
            go_meet
            exact ⟨rfl, rfl⟩
          · go_wp2_with fail
            go_meet
            exact ⟨rfl, rfl⟩
          -- >>
        case rest =>
          obtain ⟨rfl, rfl⟩ := hcut
          go_upto_if 32 with fail
          go_cut [6] (fun s6 wc => s6 = .int .i64 (bfOf p x) ∧ wc = wr.alloc (.cells #[.int .i64 x.letter, .int .i64 x.kind, .int .i64 x.time, .int .i64 x.office] 36) ∧ Hid (timeB p x = true))
          case first =>
            -- <<
            rcases hpk with ⟨hk, rfl⟩ | ⟨hk, rfl⟩
            · rw [show sameB none x = false from rfl]
              go_wp2_with fail
              go_meet
              exact ⟨rfl, rfl, rfl⟩
            · by_cases hyx : y.letter = x.letter
              · rw [show sameB (some y) x = true from sameB_eq hyx]
                go_wp2_with fail
                go_at_call 21; refine (need_any _ _ _).mono ?_; rintro e w' ⟨rfl, ⟨ht, rfl⟩ | ⟨ht, rfl⟩⟩
                case inl =>
                  have ht' := Lib.hid ht
                  clear ht
                  go_wp2_with fail
                  go_meet
                  exact ⟨by rw [bfOf_eq hyx], rfl, by rw [timeB_eq hyx]; exact ht'.out⟩
                case inr =>
                  exact ⟨rfl, HNo.out _ (next_time (by rw [timeB_eq hyx]; exact ht)) (bAl hb _)⟩
              · rw [show sameB (some y) x = false from sameB_ne hyx]
                go_wp2_with fail
                go_meet
                exact ⟨by rw [bfOf_ne hyx], rfl, timeB_ne hyx⟩
            -- >>
          case rest =>
            obtain ⟨rfl, rfl, htime⟩ := hcut
            go_upto_region 10 with fail
            go_cut [] (fun wc => wc = wr.alloc (.cells #[.int .i64 x.letter, .int .i64 x.kind, .int .i64 x.time, .int .i64 x.office] 36) ∧ Hid (orderB p x = true))
            case first =>
              -- <<
              rcases hpk with ⟨hk, rfl⟩ | ⟨hk, rfl⟩
              · have hk' : ((k : Int) == 0) = true := by simp [hk]
                clear hk
                go_wp2_with fail
                go_at_call 21; refine (need_any _ _ _).mono ?_; rintro e w' ⟨rfl, ⟨ht, rfl⟩ | ⟨ht, rfl⟩⟩
                case inl => go_wp2_with fail; go_meet; exact ⟨rfl, rfl⟩
                case inr => cases ht
              · have hk' : ((k : Int) == 0) = false := by simp; omega
                go_wp2_with fail
                go_at_call 21; refine (need_any _ _ _).mono ?_; rintro e w' ⟨rfl, ⟨ht, rfl⟩ | ⟨ht, rfl⟩⟩
                case inl => have ht' := Lib.hid ht; clear ht; go_wp2_with fail; go_meet; exact ⟨rfl, ht'.out⟩
                case inr => exact ⟨rfl, HNo.out _ (next_order ht) (bAl hb _)⟩
              -- >>
            case rest =>
              obtain ⟨rfl, horder⟩ := hcut
              have hbf := bfOf_le (x := x) hok'
              have hbf0 := hbf.1
              have hbf8 := hbf.2
              clear hbf
              go_upto_region 11 with fail
              go_cut [] (fun wc => Below (wr.heap.size + 1) (wr.alloc (.cells #[.int .i64 x.letter, .int .i64 x.kind, .int .i64 x.time, .int .i64 x.office] 36)) wc ∧ Hid (followsB (bfOf p x) x.kind = true))
              case first =>
                -- <<
                go_region_with (first
                  | (go_at_call 29; refine (after_any _ _ hbf0 hbf8).mono ?_; rintro e w1 ⟨rfl, hb1⟩; have f1 := hb1.cell (p := ⟨wr.heap.size, 1, none⟩) (by simp))
                  | (go_at_call 25; refine (set_has _ _ _ (afterN_le _).1 (afterN_le _).2).mono ?_; rintro e w2 ⟨rfl, rfl⟩)
                  | (go_at_call 21; refine (need_any _ _ _).mono ?_; rintro e w' ⟨rfl, ⟨ht, rfl⟩ | ⟨ht, rfl⟩⟩; rotate_left; exact ⟨rfl, HNo.out _ (next_fol (by rw [← bit_after _ _ hbf0 hbf8]; exact ht)) (bCall (bDr (bAl hb _)) hb1)⟩))
                all_goals
                  have ht' := Lib.hid ht
                  clear ht
                  go_wp2_with fail
                  go_meet
                  exact ⟨((Below.refl _ _).drew).trans (hb1.mono (by simp)), by rw [← bit_after _ _ hbf0 hbf8]; exact ht'.out⟩
                -- >>
              case rest =>
                obtain ⟨hbw, hfol⟩ := hcut
                have B0 : Blk wc W.heap.size 57 spansCells := (hB0.alloc _).below hbw (by omega)
                have B1 : Blk wc (W.heap.size + 1) 36 y.cells.toArray := by
                  have h := (hB1.alloc (.cells #[.int .i64 x.letter, .int .i64 x.kind, .int .i64 x.time, .int .i64 x.office] 36)).below hbw (by omega)
                  rw [hy.out] at h
                  exact h
                have B2 : Blk wc wr.heap.size 36 x.cells.toArray := (Blk.new wr 36 #[.int .i64 x.letter, .int .i64 x.kind, .int .i64 x.time, .int .i64 x.office] _ rfl).below hbw (by omega)
                have hbW : Below W.heap.size W wc := (bAl hb _).trans (hbw.mono (by have := hb.size; omega))
                clear hbw c0 c1 c2 c3 e0 e1 e2 hB0 hB1
                have s4 : wc.cell? ⟨W.heap.size, 4, none⟩ = some (.int .i64 0) := B0.cell 4
                have s5 : wc.cell? ⟨W.heap.size, 5, none⟩ = some (.int .i64 23) := B0.cell 5
                go_upto_region 12 with fail
                go_cut [7] (fun s7 wq => ∃ g, s7 = .pointer (some ⟨g, 0, none⟩) ∧ wr.heap.size < g ∧ FMem wq W.heap.size (W.heap.size + 1) wr.heap.size g y x 0 23 ∧ Below W.heap.size W wq)
                case first =>
                  -- <<
                  go_wp2_with fail
                  go_meet
                  exact ⟨_, rfl, B2.lt, ⟨B0.alloc _, B1.alloc _, B2.alloc _, Blk.new _ _ _ _ rfl⟩, bAl hbW _⟩
                  -- >>
                case rest =>
                clear B0 B1 B2 s4 s5
                obtain ⟨g, rfl, hgr, M0, hbW0⟩ := hcut
                go_upto_region 13 with fail
                go_cut [63] (fun s63 w2 => s63 = .bool (bitB 130 x.kind) ∧ FMem w2 W.heap.size (W.heap.size + 1) wr.heap.size g y x 0 23 ∧ Below W.heap.size W w2)
                case first =>
                  -- <<
                  obtain ⟨q0, q1, q2, q3, q4, q5, q6, q7, q8, q9, q10, q11⟩ := M0.cells
                  obtain ⟨z0, z1, z2, z3⟩ := M0.lts
                  go_region_with (first
                    | (go_at_call 24; refine (kinds_any _ _ _ _ _ (by exact Rd.new _ _ _ _ _ _ (by simp) rfl) (by rfl) (by omega)).mono ?_; rintro e w' ⟨rfl, rfl⟩)
                    | (go_at_call 25; rw [setV17]; refine (set_has _ _ _ (by omega) (by omega)).mono ?_; rintro e w2 ⟨rfl, rfl⟩))
                  all_goals
                    go_wp2_with fail
                    go_meet
                    refine ⟨rfl, ?_, ?_⟩
                    · exact M0.below (by exact bDr (bAl (bRefl _) _))
                    · exact bDr (bAl hbW0 _)
                  -- >>
                case rest =>
                  obtain ⟨rfl, M1, hbW1⟩ := hcut
                  go_upto_if 63 with fail
                  go_cut [] (fun w3 => FMem w3 W.heap.size (W.heap.size + 1) wr.heap.size g y x (offLo x) (offHi x) ∧ Below W.heap.size W w3)
                  case first =>
                    -- <<
                    obtain ⟨q0, q1, q2, q3, q4, q5, q6, q7, q8, q9, q10, q11⟩ := M1.cells
                    have z0 := M1.2.2.2.frozen 0
                    have z1 := M1.2.2.2.frozen 1
                    cases hbit : bitB 130 x.kind
                    · have hlo : offLo x = 0 := if_neg (by simp [hbit])
                      have hhi : offHi x = 23 := if_neg (by simp [hbit])
                      have HLO := Lib.hid hlo
                      have HHI := Lib.hid hhi
                      clear hbit hlo hhi
                      go_wp2_with fail
                      go_meet
                      exact ⟨by rw [HLO.out, HHI.out]; exact M1, hbW1⟩
                    · have hlo : offLo x = -1 := if_pos hbit
                      have hhi : offHi x = -1 := if_pos hbit
                      have HLO := Lib.hid hlo
                      have HHI := Lib.hid hhi
                      clear hbit hlo hhi
                      go_wp2_with fail
                      go_meet
                      have n0 : W.heap.size ≠ g := by omega
                      have n1 : W.heap.size + 1 ≠ g := by omega
                      have n2 : wr.heap.size ≠ g := by omega
                      refine ⟨?_, bSet (bSet hbW1 (by simp; omega) _) (by simp; omega) _⟩
                      rw [HLO.out, HHI.out]
                      exact ⟨(M1.1.far (by exact n0) _).far (by exact n0) _, (M1.2.1.far (by exact n1) _).far (by exact n1) _, (M1.2.2.1.far (by exact n2) _).far (by exact n2) _, (M1.2.2.2.set_ 0 _).set_ 1 _⟩
                    -- >>
                  case rest =>
                    obtain ⟨M2, hbW2⟩ := hcut
                    go_upto_region 15 with fail
                    go_cut [] (fun w4 => FMem w4 W.heap.size (W.heap.size + 1) wr.heap.size g y x (offLo x) (offHi x) ∧ Below W.heap.size W w4 ∧ Hid (rightB x = true))
                    case first =>
                      -- <<
                      obtain ⟨q0, q1, q2, q3, q4, q5, q6, q7, q8, q9, q10, q11⟩ := M2.cells
                      go_wp2_with fail
                      refine (span_has _ _ _ _).mono ?_
                      rintro e w4 ⟨rfl, hb4⟩
                      have M4 := M2.below hb4
                      have hbW4 := bCall hbW2 hb4
                      obtain ⟨p0, p1, p2, p3, p4, p5, p6, p7, p8, p9, p10, p11⟩ := M4.cells
                      clear q0 q1 q2 q3 q4 q5 q6 q7 q8 q9 q10 q11 hb4
                      cases h1 : spanB 0 1048576 x.letter
                      · have hr : Hid (rightB x = false) := by show _ = _; unfold rightB; rw [h1]; rfl
                        clear h1
                        go_wp2_with fail
                        refine (need_any _ _ _).mono ?_; rintro e w' ⟨rfl, ⟨ht, rfl⟩ | ⟨ht, rfl⟩⟩
                        case inl => cases ht
                        case inr => exact ⟨rfl, HNo.out _ (next_right hr.out) hbW4⟩
                      · have H1 := Lib.hid h1
                        clear h1
                        go_wp2_with fail
                        refine (span_has _ _ _ _).mono ?_
                        rintro e w5 ⟨rfl, hb5⟩
                        have M5 := M4.below hb5
                        have hbW5 := bCall hbW4 hb5
                        obtain ⟨q0, q1, q2, q3, q4, q5, q6, q7, q8, q9, q10, q11⟩ := M5.cells
                        clear p0 p1 p2 p3 p4 p5 p6 p7 p8 p9 p10 p11 hb5
                        cases h2 : spanB 0 2097151 x.time
                        · have hr : Hid (rightB x = false) := by show _ = _; unfold rightB; rw [h2]; simp
                          clear h2
                          go_wp2_with fail
                          refine (need_any _ _ _).mono ?_; rintro e w' ⟨rfl, ⟨ht, rfl⟩ | ⟨ht, rfl⟩⟩
                          case inl => cases ht
                          case inr => exact ⟨rfl, HNo.out _ (next_right hr.out) hbW5⟩
                        · have H2 := Lib.hid h2
                          clear h2
                          go_wp2_with fail
                          refine (span_has _ _ _ _).mono ?_
                          rintro e w6 ⟨rfl, hb6⟩
                          have M6 := M5.below hb6
                          have hbW6 := bCall hbW5 hb6
                          clear q0 q1 q2 q3 q4 q5 q6 q7 q8 q9 q10 q11 hb6
                          go_wp2_with fail
                          refine (need_any _ _ _).mono ?_; rintro e w' ⟨rfl, ⟨ht, rfl⟩ | ⟨ht, rfl⟩⟩
                          case inl =>
                            have HT := Lib.hid ht
                            clear ht
                            go_wp2_with fail
                            go_meet
                            exact ⟨M6, hbW6, by unfold rightB; rw [H1.out, H2.out, HT.out]; rfl⟩
                          case inr => exact ⟨rfl, HNo.out _ (next_right (by unfold rightB; rw [ht, Bool.and_false])) hbW6⟩
                      -- >>
                    case rest =>
                      obtain ⟨M4, hbW4, hright⟩ := hcut
                      obtain ⟨q0, q1, q2, q3, q4, q5, q6, q7, q8, q9, q10, q11⟩ := M4.cells
                      have z0 := M4.2.1.frozen 0
                      have z1 := M4.2.1.frozen 1
                      have z2 := M4.2.1.frozen 2
                      have z3 := M4.2.1.frozen 3
                      have y0 : wc.cell? ⟨W.heap.size + 1, 0, none⟩ = some (.int .i64 y.letter) := M4.2.1.cell 0
                      have y1 : wc.cell? ⟨W.heap.size + 1, 1, none⟩ = some (.int .i64 y.kind) := M4.2.1.cell 1
                      have y2 : wc.cell? ⟨W.heap.size + 1, 2, none⟩ = some (.int .i64 y.time) := M4.2.1.cell 2
                      have y3 : wc.cell? ⟨W.heap.size + 1, 3, none⟩ = some (.int .i64 y.office) := M4.2.1.cell 3
                      go_wp2_with fail
                      go_roundw
                      case measure => simp [intOf]; omega
                      case rel =>
                        obtain ⟨hl1, hl2⟩ := lastOf_some hx.out
                        have g0 : W.heap.size ≠ W.heap.size + 1 := by omega
                        refine ⟨k + 1, by omega, by go_num, bSet (bSet (bSet (bSet hbW4 (by simp) _) (by simp) _) (by simp) _) (by simp) _, (((M4.1.far (by exact g0) _).far (by exact g0) _).far (by exact g0) _).far (by exact g0) _, ?_, ?_, ?_⟩
                        · rw [hl1]; exact (((M4.2.1.set_ 0 _).set_ 1 _).set_ 2 _).set_ 3 _
                        · rw [hl2]; exact okP_next hfol.out
                        · exact chk_on hx.out hp.out hc.out (next_yes htime.out horder.out hfol.out hright.out)
      · go_wp2_with fail
        go_end0
        exact ⟨hb, .inl ⟨check_good hn (chk_end (by omega) hc.out), rfl⟩⟩
  · go_enter Try.func20, Try.ntmps20
    go_wp2_with fail
    refine (need_any _ _ _).mono ?_
    rintro e w' ⟨rfl, ⟨hb, rfl⟩ | ⟨hb, rfl⟩⟩
    case inl => simp at hb; omega
    case inr => exact ⟨rfl, bRefl _, .inr ⟨by rw [check_many hn]; decide, by rw [check_many hn]⟩⟩

end Go.Proofs.Ytcadkfaaogclfaa
