/-
  CustodyFollows: what may follow. The plain law, the walk and the claim.
-/
import Derived.Test.YtcadkfaaogclfaaCuOnce
import Derived.Test.YtcadkfaaogclfaaVMap
import Derived.Test.YtcadkfaaogclfaaAppend
import Derived.Deep.RegionHeld3
import Derived.Deep.DrawnRows
namespace Go.Proofs.Ytcadkfaaogclfaa
open Go.ChangeShapes Go.WideShapes Go.ChangeAt Go.RowKit

/-- The table. -/
def mayL (k : Int) : List Int := if k = 6 then [5, 7] else if k = 2 then [2, 3, 4, 5, 6, 8] else if k = 4 then [2, 8] else if k = 1 then [2, 8] else []
theorem may_follows {b k : Int} (hb : 1 ≤ b) : ((mayL b).any fun j => j == k) = followsB b k := by
  rw [Bool.eq_iff_iff, follows_iff]
  unfold mayL
  split
  · simp; omega
  · split
    · simp; omega
    · split
      · simp; omega
      · split
        · simp; omega
        · simp; omega
def offB (x : Ev) : Bool := if x.kind = 7 then x.office == -1 else (decide (0 ≤ x.office) && decide (x.office ≤ 23))
def lateB (y x : Ev) : Bool := decide (y.time ≤ x.time) && decide (x.time < 2097152)

theorem chk_snoc : ∀ (l : List Ev) (p : Option Ev) (x : Ev), chk p l = true → chk p (l ++ [x]) = nextB (if l = [] then p else l.getLast?) x
  | [], p, x, _ => by show (nextB p x && true) = _; simp
  | [y], p, x, h => by
    have h1 : nextB p y = true := by
      have h' : (nextB p y && true) = true := h
      simpa using h'
    show (nextB p y && (nextB (some y) x && true)) = _
    rw [h1]; simp
  | y :: z :: l, p, x, h => by
    have h' : (nextB p y && chk (some y) (z :: l)) = true := h
    simp at h'
    have := chk_snoc (z :: l) (some y) x h'.2
    show (nextB p y && chk (some y) (z :: l ++ [x])) = _
    rw [h'.1, this]; simp

theorem follows_law {l : List Ev} {y x : Ev} (hn : l.length ≤ 200) (hc : chk none l = true) (hy : l.getLast? = some y) (hx : x.letter = y.letter) :
    (check (l ++ [x]) == 0) = ((lateB y x && offB x) && ((mayL y.kind).any fun j => j == x.kind)) := by
  have hl : (l ++ [x]).length ≤ 4096 := by simp; omega
  have e0 : (check (l ++ [x]) == 0) = chk none (l ++ [x]) := by
    cases h : chk none (l ++ [x])
    · rw [check_bad hl h]; rfl
    · rw [check_good hl h]; rfl
  have hne : l ≠ [] := by intro e; subst e; cases hy
  rw [e0, chk_snoc l none x hc, if_neg hne, hy]
  have hm : y ∈ l := List.mem_of_getLast? hy
  have hr := (rightB_iff y).1 (chk_right none l hc y hm)
  have hk : 1 ≤ y.kind := by
    obtain ⟨k, hk⟩ := List.getElem?_of_mem hm
    exact (follows_kind (next_all (chk_next hc hk)).2.2.1).1
  rw [may_follows hk]
  unfold nextB
  rw [timeB_eq hx.symm, bfOf_eq hx.symm]
  have e1 : orderB (some y) x = true := by simp [orderB, hx]
  rw [e1, Bool.eq_iff_iff]
  cases hf : followsB y.kind x.kind
  · simp
  · have hk1 : x.kind ≠ 1 := by
      rw [follows_iff] at hf
      omega
    simp only [Bool.and_true, Bool.true_and, Bool.and_eq_true, rightB_iff, decide_eq_true_eq]
    unfold lateB offB
    split
    · simp; omega
    · simp; omega

attribute [local go_sem ↓] Go.wp_at_zero Go.wp_at_succ

theorem ev_four {w : World} {g : Nat} {t : TypeId} {a b c d : Value} (h : Blk w g t #[a, b, c, d]) : w.cell? ⟨g, 0, none⟩ = some a ∧ w.cell? ⟨g, 1, none⟩ = some b ∧ w.cell? ⟨g, 2, none⟩ = some c ∧ w.cell? ⟨g, 3, none⟩ = some d :=
  ⟨by simpa using h.cell 0, by simpa using h.cell 1, by simpa using h.cell 2, by simpa using h.cell 3⟩
theorem ev_info : (Try.prog.info? 36).map (fun i => (i.zero, i.size, i.bytes)) = some (some Ev.zero.agg, 4, 32) := by kernel_rfl
theorem ev_one (l : List Ev) : ∀ u ∈ l.flatMap Ev.cells, u.oneCell' = true := by
  intro u hu
  obtain ⟨x, _, hx⟩ := List.mem_flatMap.1 hu
  simp [Ev.cells] at hx
  rcases hx with rfl | rfl | rfl | rfl <;> rfl
theorem ev_one1 (x : Ev) : ∀ u ∈ x.cells, u.oneCell' = true := by
  intro u hu
  simp [Ev.cells] at hu
  rcases hu with rfl | rfl | rfl | rfl <;> rfl
theorem ev_snoc (l : List Ev) (x : Ev) : l.flatMap Ev.cells ++ x.cells = (l ++ [x]).flatMap Ev.cells := by simp

set_option maxRecDepth 100000 in
set_option maxHeartbeats 4000000 in
theorem follows_walk (A : Option Addr) (c : Nat) (l : List Ev) (x : Ev) (W : World) (hA : Rd W W.heap.size 4 A l.length (l.flatMap Ev.cells)) (hn : l.length ≤ 9223372036854775807) :
    Calls Try.prog 5 #[.slice A l.length c, x.agg] W (Ret (.bool true) W) := by
  have hmm := @run_makeMap Try.prog
  dsimp only [Ev.agg]
  go_enter Try.func5, Try.ntmps5
  go_wp2_with fail
  refine (sane_any _).mono ?_
  rintro e w1 ⟨rfl, hb1⟩
  have hb := bCall (bAl (bRefl W) _) hb1
  have BX : Blk w1 W.heap.size 36 #[.int .i64 x.letter, .int .i64 x.kind, .int .i64 x.time, .int .i64 x.office] := (Blk.new W _ _ _ rfl).below hb1 (by simp)
  clear hb1
  by_cases h1 : l.length = 0
  case pos =>
    rw [h1]
    clear h1
    go_wp2_with fail
    go_ret
    exact ⟨rfl, hb⟩
  case neg =>
    by_cases h2 : l.length ≤ 200
    case neg =>
      have h1' : ((l.length : Int) == 0) = false := beq_eq_false_iff_ne.2 (by omega)
      go_wp2_with fail
      go_ret
      exact ⟨rfl, hb⟩
    case pos =>
      have h1' : ((l.length : Int) == 0) = false := beq_eq_false_iff_ne.2 (by omega)
      go_wp2_with fail
      refine (ref_check A c l _ (hA.more_later hb)).mono ?_
      rintro e w2 ⟨rfl, b1⟩
      replace hb := bCall hb b1
      replace BX := BX.below b1 BX.lt
      clear b1
      by_cases h0 : check l = 0
      case neg =>
        have h0' : (check l != 0) = true := by simpa using h0
        go_wp2_with fail
        go_ret
        exact ⟨rfl, hb⟩
      case pos =>
        have hc := Lib.hid (chk_of_check h0)
        rw [h0]
        clear h0
        have hy : ∃ y, l[l.length - 1]? = some y := ⟨_, List.getElem?_eq_getElem (by omega)⟩
        obtain ⟨y, hy0⟩ := hy
        have hy := Lib.hid hy0
        clear hy0
        obtain ⟨b, off, rfl, hbb, e0, e1, e2, e3⟩ := Ev_at (hA.below hb) (by omega) hy.out
        have hbw : b < w2.heap.size := Nat.lt_of_lt_of_le hbb hb.size
        go_upto_region 6 with fail
        have BY := Blk.new w2 36 #[.int .i64 y.letter, .int .i64 y.kind, .int .i64 y.time, .int .i64 y.office] _ rfl
        have hbx := BX.lt
        replace BX := BX.alloc (.cells #[.int .i64 y.letter, .int .i64 y.kind, .int .i64 y.time, .int .i64 y.office] 36)
        replace hb := bAl hb (.cells #[.int .i64 y.letter, .int .i64 y.kind, .int .i64 y.time, .int .i64 y.office] 36)
        clear e0 e1 e2 e3
        generalize w2.alloc (.cells #[.int .i64 y.letter, .int .i64 y.kind, .int .i64 y.time, .int .i64 y.office] 36) = w3 at *
        generalize w2.heap.size = by_ at *
        have x0 := BX.cell 0
        have xf := BX.frozen 0
        have y0 := BY.cell 0
        simp at x0 y0
        go_upto_region 7 with fail
        have hne : by_ ≠ W.heap.size := by omega
        replace BY := BY.far (p := ⟨W.heap.size, 0, none⟩) hne (.int .i64 y.letter)
        replace BX := BX.set_ 0 (.int .i64 y.letter)
        replace hb := bSet hb (p := ⟨W.heap.size, 0, none⟩) (Nat.le_refl _) (.int .i64 y.letter)
        clear x0 xf y0
        generalize w3.setCell ⟨W.heap.size, 0, none⟩ (.int .i64 y.letter) = w4 at *
        simp at BX
        have hyk := follows_kind (next_all (chk_next hc.out hy.out)).2.2.1
        have hwf := wf_small (i := y.kind) (by omega) (by omega)
        obtain ⟨x', hx'⟩ : ∃ x' : Ev, x' = ⟨y.letter, x.kind, x.time, x.office⟩ := ⟨_, rfl⟩
        go_cut [6] (fun s6 wc => ∃ bm a c, s6 = .map (some bm) ∧ Below W.heap.size W wc ∧ Blk wc W.heap.size 36 #[.int .i64 y.letter, .int .i64 x.kind, .int .i64 x.time, .int .i64 x.office] ∧ Blk wc by_ 36 #[.int .i64 y.letter, .int .i64 y.kind, .int .i64 y.time, .int .i64 y.office] ∧
          (Instr.lookup 37 (.map (some bm)) (.int .i64 y.kind) false).run Try.prog wc = .ok (.slice a (mayL y.kind).length c) wc ∧ Rd wc wc.heap.size 1 a (mayL y.kind).length (ints (mayL y.kind)))
        case first =>
          go_wp2_with (refine wpList_insert_v (z := .slice none 0 0) rfl _ _ _ 37 rfl (by first | assumption | exact VMap.alloc (by assumption) _ | exact VMap.alloc (VMap.made _ _ _ _) _) Try.underlying3 Try.underlying37 rfl (by omega) _ _ rfl rfl (by decide) ?_; intro w5 hm hg)
          go_meet
          rename_i wa ma ga wb mb gb wc mc gc
          have hlk := hm.look Try.underlying3 Try.underlying37 (by kernel_rfl) hwf
          have z0 : W.heap.size ≤ w4.heap.size := hb.size
          have z1 := BX.lt
          have z2 := BY.lt
          have n1 : some W.heap.size ≠ some w4.heap.size := by intro e; injection e with e; omega
          have n2 : some by_ ≠ some w4.heap.size := by intro e; injection e with e; omega
          have sa := ma.lt
          have sb := mb.lt
          have sc := mc.lt
          have sd := hm.lt
          have B1 : Blk ((w4.alloc (.map #[] 0)).alloc (.cells #[.int .i64 2, .int .i64 8] 3)) (w4.heap.size + 1) 3 #[.int .i64 2, .int .i64 8] := Blk.new _ _ _ _ (by simp)
          have B1 := (((((B1.grown ga (by intro e; injection e with e; omega)).alloc _).grown gb (by intro e; injection e with e; omega)).alloc _).grown gc (by intro e; injection e with e; omega)).alloc (.cells #[.int .i64 5, .int .i64 7] 3)
          have B1 := B1.grown hg (by intro e; injection e with e; omega)
          have B2 := ((((Blk.new wa 3 #[.int .i64 2, .int .i64 8] _ rfl).grown gb (by intro e; injection e with e; omega)).alloc (.cells #[.int .i64 2, .int .i64 3, .int .i64 4, .int .i64 5, .int .i64 6, .int .i64 8] 3)).grown gc (by intro e; injection e with e; omega)).alloc (.cells #[.int .i64 5, .int .i64 7] 3)
          have B2 := B2.grown hg (by intro e; injection e with e; omega)
          have B3 := (((Blk.new wb 3 #[.int .i64 2, .int .i64 3, .int .i64 4, .int .i64 5, .int .i64 6, .int .i64 8] _ rfl).grown gc (by intro e; injection e with e; omega)).alloc (.cells #[.int .i64 5, .int .i64 7] 3)).grown hg (by intro e; injection e with e; omega)
          have B4 := (Blk.new wc 3 #[.int .i64 5, .int .i64 7] _ rfl).grown hg (by intro e; injection e with e; omega)
          have BX' := (((((((BX.alloc _).alloc _).grown ga n1).alloc _).grown gb n1).alloc _).grown gc n1).alloc (.cells #[.int .i64 5, .int .i64 7] 3)
          have BY' := (((((((BY.alloc _).alloc _).grown ga n2).alloc _).grown gb n2).alloc _).grown gc n2).alloc (.cells #[.int .i64 5, .int .i64 7] 3)
          have hb' := bAl (bAl hb (.map #[] 0)) (.cells #[.int .i64 2, .int .i64 8] 3)
          have hb' := bAl (hb'.grown ga (by simp; omega) (fun q e => by cases e; omega)) (.cells #[.int .i64 2, .int .i64 8] 3)
          have hb' := bAl (hb'.grown gb (by simp; omega) (fun q e => by cases e; omega)) (.cells #[.int .i64 2, .int .i64 3, .int .i64 4, .int .i64 5, .int .i64 6, .int .i64 8] 3)
          have hb' := bAl (hb'.grown gc (by simp; omega) (fun q e => by cases e; omega)) (.cells #[.int .i64 5, .int .i64 7] 3)
          have hb' := hb'.grown hg (by simp; omega) (fun q e => by cases e; omega)
          have hex : ∃ a c, (if y.kind = 6 then Value.slice (some ⟨wc.heap.size, 0, none⟩) 2 2 else if y.kind = 2 then Value.slice (some ⟨wb.heap.size, 0, none⟩) 6 6 else if y.kind = 4 then Value.slice (some ⟨wa.heap.size, 0, none⟩) 2 2 else if y.kind = 1 then Value.slice (some ⟨w4.heap.size + 1, 0, none⟩) 2 2 else Value.slice none 0 0)
              = .slice a (mayL y.kind).length c ∧ Rd w5 w5.heap.size 1 a (mayL y.kind).length (ints (mayL y.kind)) := by
            unfold mayL
            split
            · exact ⟨_, _, rfl, Rd.of_blk B4 rfl B4.lt⟩
            · split
              · exact ⟨_, _, rfl, Rd.of_blk B3 rfl B3.lt⟩
              · split
                · exact ⟨_, _, rfl, Rd.of_blk B2 rfl B2.lt⟩
                · split
                  · exact ⟨_, _, rfl, Rd.of_blk B1 rfl B1.lt⟩
                  · exact ⟨_, _, rfl, Rd.nil_⟩
          obtain ⟨a, c', e1, e2⟩ := hex
          exact ⟨_, a, c', rfl, hb', BX'.grown hg n1, BY'.grown hg n2, by rw [← e1]; exact hlk, e2⟩
        case rest =>
          obtain ⟨bm, a, c', rfl, hb, BX, BY, hlk, hml⟩ := hcut
          have x0 := BX.cell 0
          have x1 := BX.cell 1
          have x2 := BX.cell 2
          have x3 := BX.cell 3
          have y0 := BY.cell 0
          have y1 := BY.cell 1
          have y2 := BY.cell 2
          simp at x0 x1 x2 x3 y0 y1 y2
          have hlm : Hid ((mayL y.kind).length ≤ 6) := by
            show _ ≤ _
            unfold mayL
            repeat (split; decide)
            decide
          generalize hml0 : mayL y.kind = ml at *
          have Hml := Lib.hid hml0
          clear hml0
          obtain ⟨w5, rfl⟩ : ∃ w5 : World, w5 = wc := ⟨_, rfl⟩
          go_upto_region 8 with fail
          go_cut [7] (fun s7 wc => s7 = .bool (lateB y x) ∧ w5 = wc)
          case first =>
            go_wp2_with fail
            all_goals
              go_meet
              exact ⟨by unfold lateB; simp; omega, rfl⟩
          case rest =>
            obtain ⟨rfl, rfl⟩ := hcut
            go_wp2_with fail
            go_loopw [8, 57] (fun s i wr => ∃ k : Nat, k ≤ ml.length ∧ i = .int .i64 k ∧ s = .bool ((ml.take k).any fun j => j == x.kind) ∧ w5 = wr) (fun _ i _ => ml.length - (intOf i).toNat)
            case atStart => exact ⟨0, Nat.zero_le _, rfl, rfl, rfl⟩
            case round =>
              obtain ⟨k, hkn, rfl, rfl, rfl⟩ := hrel
              have hl6 := hlm.out
              by_cases hj : k < ml.length
              · obtain ⟨m, hm⟩ : ∃ m, Hid (ml[k]? = some m) := ⟨_, Lib.hid (List.getElem?_eq_getElem hj)⟩
                obtain ⟨b2, off2, rfl, hb2, m0⟩ := Int_at hml hj hm.out
                have hts : Hid ((ml.take (k + 1)).any (fun j => j == x.kind) = ((ml.take k).any (fun j => j == x.kind) || m == x.kind)) := by
                  obtain ⟨hk, rfl⟩ := List.getElem?_eq_some_iff.1 hm.out
                  show _ = _
                  rw [List.take_succ_eq_append_getElem hk, List.any_append]
                  simp
                cases hs : (ml.take k).any (fun j => j == x.kind)
                · have Hs := Lib.hid hs
                  clear hs
                  go_wp2_with fail
                  go_roundw
                  case rel => exact ⟨k + 1, by omega, by go_num, by rw [hts.out, Hs.out]; simp, by first | rfl | trivial⟩
                  case measure => simp [intOf]; omega
                · have Hs := Lib.hid hs
                  clear hs
                  go_wp2_with fail
                  go_roundw
                  case rel => exact ⟨k + 1, by omega, by go_num, by rw [hts.out, Hs.out]; simp, by first | rfl | trivial⟩
                  case measure => simp [intOf]; omega
              · have hk : k = ml.length := by omega
                subst hk
                rw [List.take_length]
                go_upto_if 71 with fail
                go_cut [7] (fun s7 wc => s7 = .bool (lateB y x && offB x) ∧ w5 = wc)
                case first =>
                  have hof : Hid (offB x = if x.kind = 7 then x.office == -1 else (decide (0 ≤ x.office) && decide (x.office ≤ 23))) := rfl
                  cases hlt : lateB y x
                  · go_wp2_with fail
                    all_goals
                      go_meet
                      exact ⟨by rw [hlt]; rfl, by first | rfl | trivial⟩
                  · go_wp2_with fail
                    all_goals
                      go_meet
                      refine ⟨congrArg Value.bool ?_, by first | rfl | trivial⟩
                      rw [hlt, hof.out, Bool.eq_iff_iff]
                      clear hA hc hy BY BX hb x0 x1 x2 x3 y0 y1 y2 hlk hml hlt hof
                      split <;> simp at * <;> omega
                case rest =>
                  obtain ⟨rfl, rfl⟩ := hcut
                  go_upto_region 18 with fail
                  clear x0 x1 x2 x3 y0 y1 y2 hlk hml
                  have hn0 : 0 < l.length := by omega
                  have hn1 : l.length ≤ 1000000 := by omega
                  go_cut [11] (fun s11 wc => s11 = .int .i64 (check (l ++ [(⟨y.letter, x.kind, x.time, x.office⟩ : Ev)])) ∧ Below W.heap.size W wc)
                  case first =>
                    obtain ⟨x0, x1, x2, x3⟩ := ev_four BX
                    have hbx5 := BX.lt
                    have hzW := hb.size
                    go_region_held3 (fun w' => w'.cell? ⟨W.heap.size, 0, none⟩ = some (.int .i64 y.letter) ∧ w'.cell? ⟨W.heap.size, 1, none⟩ = some (.int .i64 x.kind) ∧ w'.cell? ⟨W.heap.size, 2, none⟩ = some (.int .i64 x.time) ∧ w'.cell? ⟨W.heap.size, 3, none⟩ = some (.int .i64 x.office))
                      (first | exact ev_four BX8 | exact ev_four BX7 | exact ev_four (BX.below (by repeat (first | exact bRefl _ | refine bCall ?_ hbe6 | refine bAl ?_ _ | refine bDr ?_)) BX.lt))
                      (first
                      | (refine step_append_new rfl (.tmp 89) (.tmp 90) 22 rfl 36 Ev.zero.agg 4 32 Try.underlying22 ev_info (by rfl) (by omega) (by omega) _ (by rfl) W.heap.size b off l.length c (l.flatMap Ev.cells) (by rfl) (hA.below (by repeat (first | exact hb | refine bAl ?_ _ | refine bDr ?_))) (ev_one l) hn0 hn1 ?_
                         intro v6 w6 hown6 hbe6)
                      | (refine step_append_last rfl (.tmp 91) (.tmp 93) 22 rfl _ 36 Ev.zero.agg 4 32 Try.underlying22 ev_info (by rfl) (by omega) (by omega) v6 l.length (l.flatMap Ev.cells) (by rfl) (by first | exact hown6 | exact hown6.alloc _) _ 36 (⟨y.letter, x.kind, x.time, x.office⟩ : Ev).cells (by rfl)
                           (by first | exact Blk.new _ _ _ _ (by simp) | exact (Blk.drew (Blk.new _ _ _ _ (by simp))).below hbe6 (by simp <;> omega) | exact (Blk.drew ((Blk.new _ _ _ _ (by simp)).alloc _)).below hbe6 (by simp <;> omega)) (by rfl) (ev_one1 _) hn1 (by first | exact hbe6.size | exact Nat.le_trans hbe6.size (by simp)) ?_
                         intro A7 c7 w7 hr7 hb7
                         have BX7 := (BX.below (by repeat (first | exact bRefl _ | refine bCall ?_ hbe6 | refine bAl ?_ _ | refine bDr ?_)) BX.lt).below hb7 (by simp; omega)
                         have hbW7 : Below W.heap.size W w7 := Below.trans (by repeat (first | exact hb | refine bCall ?_ hbe6 | refine bAl ?_ _ | refine bDr ?_)) (hb7.mono (by simp; omega)))
                      | (go_simp; go_at_call 14; refine (check_n A7 _ c7 (l ++ [(⟨y.letter, x.kind, x.time, x.office⟩ : Ev)]) w7 (by rw [← ev_snoc]; exact hr7) (by simp)).mono ?_; rintro e w8 ⟨rfl, hb8⟩; have BX8 := BX7.below hb8 BX7.lt; have hbW8 := bCall hbW7 hb8))
                    all_goals
                      go_wp2_with fail
                      go_meet
                      exact ⟨rfl, hbW8⟩
                  case rest =>
                    obtain ⟨rfl, hb⟩ := hcut
                    have hlaw : Hid ((check (l ++ [(⟨y.letter, x.kind, x.time, x.office⟩ : Ev)]) == 0) = ((lateB y x && offB x) && (ml.any fun j => j == x.kind))) := by
                      have h := follows_law (y := y) (x := (⟨y.letter, x.kind, x.time, x.office⟩ : Ev)) h2 hc.out (by rw [List.getLast?_eq_getElem?]; exact hy.out) rfl
                      rw [Hml.out] at h
                      exact h
                    generalize (ml.any fun j => j == x.kind) = m3 at *
                    generalize check (l ++ [(⟨y.letter, x.kind, x.time, x.office⟩ : Ev)]) = ch at *
                    cases hv : (lateB y x && offB x)
                    · rw [hv] at hlaw
                      clear hv
                      go_wp2_with fail
                      go_ret
                      exact ⟨ret_bool (by rw [hlaw.out]; simp), hb⟩
                    · rw [hv] at hlaw
                      clear hv
                      go_wp2_with fail
                      go_ret
                      exact ⟨ret_bool (by rw [hlaw.out]; simp), hb⟩

set_option maxRecDepth 100000 in
theorem follows_lifted (os : Os) (started : os.Started) (H : Type) (enc : TypeId × Value → H) :
    ReturnsInHanded {} Try.checked os 5 .any (Rows.custodyFollowsSpec.pre6 enc Try.prog Try.f5 Rows.custodyFollowsRow.domain false) (Rows.custodyFollowsSpec.post enc Try.prog Try.f5 false true false false) := by
  refine returnsInHanded_of_change (C := Try.checked) own_knob started (by kernel_rfl) Try.func5
    (ChangeSpec.witness6 (enc := enc) (C := Try.checked) false ⟨#[], #[.slice none 0 0, Ev.zero.agg], []⟩ 8 (by kernel_rfl) (by kernel_rfl) (by kernel_rfl) (by kernel_rfl)) ?_
  intro W base args ds gs before hval0 hW hcnd _
  have hval : ∀ (j : Nat) t v, Try.f5.params[j]? = some t → args[j]? = some v → Value.okWide Try.prog W .any base t v := hval0
  have hW' := hW
  obtain ⟨p, q, hA0, hV, rfl, hfz, hnd⟩ := hW
  have hA : DataW.TrodAll enc Try.prog W 0 (fun _ => true) true Try.f5.params.toList args.toList ds p := hA0
  rw [Try.params5] at hA hval
  obtain ⟨v0, v1, d0, d1, p0, p1, rfl, rfl, rfl, h0, h1⟩ := trodAll_two hA
  obtain ⟨rfl, rfl⟩ := trodVars_none hV
  obtain ⟨A, n, c, rfl⟩ := okWide_slice Try.underlying22 (hval 0 22 v0 rfl rfl)
  obtain ⟨cs, rfl, _⟩ := okWide_struct Try.underlying36 (hval 1 36 v1 rfl rfl)
  have k0 := h0
  have k1 := h1
  obtain ⟨f0, hf0⟩ := h0
  obtain ⟨f1, hf1⟩ := h1
  obtain ⟨A', n', c', l, e0, hn, hn2, hAr⟩ := open_events hf0
  obtain ⟨x, e1, _⟩ := open_event _ _ _ hf1
  simp [Value.cells] at e0 e1
  obtain ⟨rfl, rfl, rfl⟩ := e0
  obtain ⟨cs⟩ := cs
  dsimp only at e1
  subst e1
  clear hA0 hval0
  subst hn
  unfold maxLen at hn2
  refine (follows_walk A c l x W hAr hn2).mono fun e W' ⟨he, bel⟩ => ?_
  subst he
  exact ⟨_, rfl, _, _, _, [], _, [], hW', trodAll_mk1 (shut_bool Try.underlying4 _), (trodAll_mk2 (arg_stays (by kernel_rfl) (of_decide_eq_true (by kernel_rfl)) k0 bel) (arg_stays (by kernel_rfl) (of_decide_eq_true (by kernel_rfl)) k1 bel)), rfl, bel.frame _, fun h => by cases h⟩

theorem custodyFollows_holds : Rows.CustodyFollowsSaid :=
  OpenClaim.holds_of_wide 5 Try.f5 rfl rfl rfl rfl rfl rfl rfl ⟨rfl, rfl, rfl, rfl, rfl⟩ rfl rfl rfl rfl rfl (by kernel_rfl) Try.func5 (by kernel_rfl)
    (of_decide_eq_true (by kernel_rfl)) (by unfold Func.isWrapper; first | (rw [if_pos (by decide +kernel)]; kernel_rfl) | (rw [if_neg (by decide +kernel)]; exact ⟨rfl, rfl⟩))
    (fun os started H enc _ => follows_lifted os started H enc)
#print axioms custodyFollows_holds

end Go.Proofs.Ytcadkfaaogclfaa
