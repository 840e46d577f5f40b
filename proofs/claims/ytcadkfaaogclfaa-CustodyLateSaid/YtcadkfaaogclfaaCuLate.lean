/-
  CustodyLate: who is late. The plain law, the walk and the claim.
-/
import Derived.Test.YtcadkfaaogclfaaCuApart
import Derived.Test.YtcadkfaaogclfaaCuFollows
import Derived.Carry
namespace Go.Proofs.Ytcadkfaaogclfaa
open Go.ChangeShapes Go.WideShapes Go.ChangeAt Go.RowKit

theorem chk_take {l : List Ev} (k : Nat) (h : chk none l = true) : chk none (l.take k) = true := by
  have h1 : chk none (l.take k ++ l.drop k) = true := by rw [List.take_append_drop]; exact h
  rw [chk_app] at h1
  simp at h1
  exact h1.1
theorem late_good {l : List Ev} {by_ : List Int} (hn : l.length ≤ 4096) (hm : by_.length ≤ 4096) (hc : chk none l = true) (hb : byOk by_ = true) : lateL l by_ = lateUpto l by_ by_.length ∧ lateE l by_ = 0 := by
  have h0 := check_good hn hc
  unfold lateL lateE
  rw [if_pos h0, if_pos h0, if_pos hm, if_pos hm, if_pos hb, if_pos hb]
  exact ⟨rfl, rfl⟩
theorem byOk_iff {by_ : List Int} : byOk by_ = true ↔ ∀ t ∈ by_, 0 ≤ t ∧ t ≤ 2097151 := by
  unfold byOk
  simp [List.all_eq_true, spanB_iff]
theorem mem_late {l : List Ev} {by_ : List Int} {n i : Nat} (hi : i < n) : (((i : Int) ∈ lateUpto l by_ n) ↔ settledB l i (by_[i]?.getD 0) = false) := by
  unfold lateUpto
  rw [List.mem_map]
  constructor
  · rintro ⟨j, hj, e⟩
    have : j = i := by omega
    subst this
    rw [List.mem_filter] at hj
    simpa using hj.2
  · intro h
    exact ⟨i, List.mem_filter.2 ⟨List.mem_range.2 hi, by simpa using h⟩, rfl⟩
theorem settled_mono {l : List Ev} {i t u : Int} (h : t ≤ u) (hs : settledB l i t = true) : settledB l i u = true := by
  unfold settledB at *
  rw [List.any_eq_true] at *
  obtain ⟨x, hx, hp⟩ := hs
  refine ⟨x, hx, ?_⟩
  simp at hp ⊢
  exact ⟨hp.1, by omega, hp.2.2⟩
theorem settled_pre {l : List Ev} {i t : Int} (k : Nat) (hs : settledB (l.take k) i t = true) : settledB l i t = true := by
  unfold settledB at *
  rw [List.any_eq_true] at *
  obtain ⟨x, hx, hp⟩ := hs
  exact ⟨x, List.mem_of_mem_take hx, hp⟩
/-- The later deadlines. -/
def laterT (m t : Int) : Int := if 2097151 < t + m then 2097151 else t + m
def laterL (by_ : List Int) (m : Int) : List Int := by_.map (laterT m)
theorem laterT_ok {m t : Int} (hm : 0 ≤ m) (h : 0 ≤ t ∧ t ≤ 2097151) : 0 ≤ laterT m t ∧ laterT m t ≤ 2097151 ∧ t ≤ laterT m t := by
  unfold laterT
  split <;> omega
theorem laterL_ok {by_ : List Int} {m : Int} (hm : 0 ≤ m) (h : ∀ t ∈ by_, 0 ≤ t ∧ t ≤ 2097151) : ∀ t ∈ laterL by_ m, 0 ≤ t ∧ t ≤ 2097151 := by
  intro t ht
  obtain ⟨u, hu, rfl⟩ := List.mem_map.1 ht
  have := laterT_ok hm (h u hu)
  omega
theorem late_sorted (l : List Ev) (by_ : List Int) (n : Nat) : (lateUpto l by_ n).Pairwise (· < ·) := by
  unfold lateUpto
  rw [List.pairwise_map]
  refine List.Pairwise.filter _ ?_
  exact List.pairwise_lt_range.imp (fun h => by omega)
theorem late_range {l : List Ev} {by_ : List Int} {n : Nat} {t : Int} (h : t ∈ lateUpto l by_ n) : 0 ≤ t ∧ t < n := by
  unfold lateUpto at h
  obtain ⟨j, hj, rfl⟩ := List.mem_map.1 h
  have := List.mem_range.1 (List.mem_filter.1 hj).1
  omega

/-- Is a number in a list? The law's own closure. -/
theorem has_any (A : Option Addr) (n c B : Nat) (xs : List Int) (t : Int) (w : World) (hA : Rd w B 1 A n (ints xs)) (hn : n ≤ 9223372036854775807) :
    Calls Try.prog 17 #[.slice A n c, .int .i64 t] w (Same (.bool (decide (t ∈ xs))) w) := by
  have hl : Hid (xs.length = n) := by have := hA.1; rw [ints_length, Nat.mul_one] at this; exact this
  go_enter Try.func17, Try.ntmps17
  go_wp2_with fail
  go_loopw [9] (fun i wr => ∃ k : Nat, k ≤ n ∧ i = .int .i64 k ∧ w = wr ∧ Hid (t ∉ xs.take k)) (fun i _ => n - (intOf i).toNat)
  case atStart => exact ⟨0, Nat.zero_le _, rfl, rfl, Lib.hid (by simp)⟩
  case round =>
    obtain ⟨k, hkn, rfl, rfl, hno⟩ := hrel
    by_cases hlt : k < n
    · obtain ⟨x, hx⟩ : ∃ x, Hid (xs[k]? = some x) := ⟨_, Lib.hid (List.getElem?_eq_getElem (by rw [hl.out]; exact hlt))⟩
      obtain ⟨b, off, rfl, hbb, c0⟩ := Int_at hA hlt hx.out
      by_cases hxt : x = t
      · have hin : Hid (t ∈ xs) := by subst hxt; exact List.mem_of_getElem? hx.out
        have hxt' : (x == t) = true := beq_iff_eq.2 hxt
        clear hxt
        go_wp2_with fail
        go_ret
        exact ⟨ret_bool (by rw [decide_eq_true hin.out]), rfl⟩
      · have hxt' : (x == t) = false := beq_eq_false_iff_ne.2 hxt
        have hno2 : Hid (t ∉ xs.take (k + 1)) := by
          obtain ⟨hk, rfl⟩ := List.getElem?_eq_some_iff.1 hx.out
          show ¬ _
          rw [List.take_succ_eq_append_getElem hk]
          simp only [List.mem_append, List.mem_singleton, not_or]
          exact ⟨hno.out, fun e => hxt e.symm⟩
        clear hxt
        go_wp2_with fail
        go_roundw
        case rel => exact ⟨k + 1, by omega, by go_num, by first | rfl | trivial, hno2⟩
        case measure => simp [intOf]; omega
    · go_wp2_with fail
      go_ret
      refine ⟨ret_bool ?_, rfl⟩
      have := hno.out
      rw [List.take_of_length_le (by rw [hl.out]; omega)] at this
      rw [decide_eq_false this]

set_option maxRecDepth 100000 in
set_option maxHeartbeats 4000000 in
theorem late_walk (A B : Option Addr) (c d : Nat) (mo q : Int) (l : List Ev) (by_ : List Int) (W : World) (hA : Rd W W.heap.size 4 A l.length (l.flatMap Ev.cells)) (hB : Rd W W.heap.size 1 B by_.length (ints by_))
    (hn : l.length ≤ c) (hm63 : by_.length ≤ 9223372036854775807) (hmo : 0 ≤ mo ∧ mo ≤ 255) (hq : 0 ≤ q ∧ q ≤ 255) :
    Calls Try.prog 7 #[.slice A l.length c, .slice B by_.length d, .int .u8 mo, .int .u8 q] W (Ret (.bool true) W) := by
  go_enter Try.func7, Try.ntmps7
  go_wp2_with fail
  refine (sane_any W).mono ?_
  rintro e w ⟨rfl, hb⟩
  by_cases h1 : l.length ≤ 200
  case neg =>
    go_wp2_with fail
    go_ret
    exact ⟨rfl, hb⟩
  by_cases h2 : by_.length ≤ 100
  case neg =>
    go_wp2_with fail
    go_ret
    exact ⟨rfl, hb⟩
  go_wp2_with fail
  refine (ref_check A c l _ (hA.more_later hb)).mono ?_
  rintro e w1 ⟨rfl, b1⟩
  replace hb := bCall hb b1
  clear b1
  have hch := check_eq (l := l) (by omega)
  cases hcl : chk none l
  case false =>
    have h0 : (check l != 0) = true := by
      have : (check l == 0) = false := by rw [hch, hcl]
      simpa using this
    go_wp2_with fail
    go_ret
    exact ⟨rfl, hb⟩
  have h0 : check l = 0 := by
    have : (check l == 0) = true := by rw [hch, hcl]
    simpa using this
  rw [h0]
  have Hcl := Lib.hid hcl
  clear hcl hch h0
  go_wp2_with fail
  go_loopw [9, 44] (fun v i wr => ∃ k : Nat, k ≤ by_.length ∧ i = .int .i64 k ∧ Below W.heap.size W wr ∧ wr.ownsRow W.heap.size 3 1 v k (ints (laterL (by_.take k) mo)) ∧ Hid (∀ t ∈ by_.take k, 0 ≤ t ∧ t ≤ 2097151)) (fun _ i _ => by_.length - (intOf i).toNat)
  case atStart => exact ⟨0, Nat.zero_le _, rfl, hb, World.ownsRow_nil _ _ _ _, Lib.hid (fun t h => by simp at h)⟩
  case round =>
    clear hb
    obtain ⟨k, hkn, rfl, hb, hown, hok⟩ := hrel
    by_cases hj : k < by_.length
    · obtain ⟨t, ht⟩ : ∃ t, Hid (by_[k]? = some t) := ⟨_, Lib.hid (List.getElem?_eq_getElem hj)⟩
      obtain ⟨b, off, rfl, hbb, c0⟩ := Int_at (hB.below hb) hj ht.out
      have hbW := hb.size
      by_cases hr : 0 ≤ t ∧ t ≤ 2097151
      · obtain ⟨hr1, hr2⟩ := hr
        have hone : ∀ u ∈ [Value.int .i64 (laterT mo t)], u.oneCell' = true := by intro u hu; simp at hu; subst hu; rfl
        have hstep : Hid (ints (laterL (by_.take k) mo) ++ [Value.int .i64 (laterT mo t)] = ints (laterL (by_.take (k + 1)) mo)) := by
          obtain ⟨hk, rfl⟩ := List.getElem?_eq_some_iff.1 ht.out
          show _ = _
          rw [List.take_succ_eq_append_getElem hk]
          simp only [laterL, ints, List.map_append, List.map_cons, List.map_nil]
        have hok2 : Hid (∀ t ∈ by_.take (k + 1), 0 ≤ t ∧ t ≤ 2097151) := by
          obtain ⟨hk, rfl⟩ := List.getElem?_eq_some_iff.1 ht.out
          intro u hu
          rw [List.take_succ_eq_append_getElem hk, List.mem_append, List.mem_singleton] at hu
          rcases hu with hu | rfl
          · exact hok.out u hu
          · exact ⟨hr1, hr2⟩
        go_wp2_with (at_builtin; refine wpList_append1 wr [.int .i64 (laterT mo t)] (.tmp 54) (.tmp 60) 23 W.heap.size 3 (.int .i64 0) 1 8 u9 k (ints (laterL (by_.take k) mo)) rfl rfl Try.underlying23 int_info rfl (by omega) (by omega) rfl hown rfl rfl hone (by omega) hbW ?_; intro v' w' hown4 hbw hgw)
        go_roundw
        case rel => exact ⟨k + 1, by omega, by go_num, hb.trans hbw, by rw [← hstep.out]; exact hown4, hok2⟩
        case measure => simp [intOf]; omega
      · have hr' : t < 0 ∨ (0 ≤ t ∧ 2097151 < t) := by omega
        clear hr
        rcases hr' with hr | ⟨hr1, hr2⟩
        · go_wp2_with fail
          go_ret
          exact ⟨rfl, hb⟩
        · go_wp2_with fail
          go_ret
          exact ⟨rfl, hb⟩
    · have hk : k = by_.length := by omega
      subst hk
      rw [List.take_length] at hown hok
      have hlen : (laterL by_ mo).length = by_.length := by simp [laterL]
      obtain ⟨B2, d2, hv, hB2⟩ := Rd.of_own hown
      subst hv
      have hokB : byOk by_ = true := byOk_iff.2 hok.out
      have hokL : byOk (laterL by_ mo) = true := byOk_iff.2 (laterL_ok hmo.1 hok.out)
      obtain ⟨j, hjn, hj2⟩ : ∃ j : Nat, j ≤ l.length ∧ q.tmod ((l.length : Int) + 1) = (j : Int) := by
        have h0 := Int.tmod_nonneg ((l.length : Int) + 1) hq.1
        have h1 := Int.tmod_lt_of_pos q (show 0 < (l.length : Int) + 1 by omega)
        exact ⟨(q.tmod ((l.length : Int) + 1)).toNat, by omega, by omega⟩
      have g1 := late_good (l := l) (by omega) (by omega) Hcl.out hokB
      have g2 := late_good (l := l) (by omega) (by rw [hlen]; omega) Hcl.out hokL
      have g3 := late_good (l := l.take j) (by rw [List.length_take]; omega) (by omega) (chk_take j Hcl.out) hokB
      rw [hlen] at g2
      have G1 := Lib.hid g1
      have G2 := Lib.hid g2
      have G3 := Lib.hid g3
      clear g1 g2 g3 hown
      have q1 := late_any A B c d l by_ wr (hA.more_later hb) (hB.more_later hb) hm63
      rw [G1.out.1, G1.out.2] at q1
      go_wp2_with fail
      refine q1.mono ?_
      clear q1
      rintro e w2 ⟨A1, c1, rfl, b1, r1⟩
      replace hb := bCall hb b1
      replace hB2 := hB2.more_later b1
      clear b1
      obtain ⟨w1, rfl⟩ : ∃ w1 : World, w1 = w2 := ⟨_, rfl⟩
      have q2 := late_n A B2 l.length by_.length c d2 l (laterL by_ mo) w1 (hA.more_later hb) hB2 rfl hlen hm63
      rw [G2.out.1, G2.out.2] at q2
      go_wp2_with fail
      refine q2.mono ?_
      clear q2
      rintro e w2 ⟨A2, c2, rfl, b1, r2⟩
      replace hb := bCall hb b1
      replace r1 := r1.more_later b1
      clear b1 hB2
      obtain ⟨w1, rfl⟩ : ∃ w1 : World, w1 = w2 := ⟨_, rfl⟩
      go_upto_region 16 with fail
      have hlj : (l.take j).length = j := by rw [List.length_take]; omega
      have hApre : ∀ w' : World, Below W.heap.size W w' → Rd w' w'.heap.size 4 A j ((l.take j).flatMap Ev.cells) := by
        intro w' hb'
        rw [flat_take Ev.cells_length]
        exact (hA.more_later hb').pre j hjn
      have HApre := Lib.hid hApre
      clear hApre
      have q3 := late_n A B j by_.length c d (l.take j) by_ w1 (HApre.out w1 hb) (hB.more_later hb) hlj rfl hm63
      rw [G3.out.1, G3.out.2] at q3
      go_wp2_with fail
      refine q3.mono ?_
      clear q3
      rintro e w2 ⟨A3, c3, rfl, b1, r3⟩
      replace hb := bCall hb b1
      replace r1 := r1.more_later b1
      replace r2 := r2.more_later b1
      clear b1
      obtain ⟨w1, rfl⟩ : ∃ w1 : World, w1 = w2 := ⟨_, rfl⟩
      have q4 := check_n A j c (l.take j) w1 (HApre.out w1 hb) hlj
      rw [check_good (by omega) (chk_take j Hcl.out)] at q4
      go_wp2_with fail
      refine q4.mono ?_
      clear q4
      rintro e w2 ⟨rfl, b1⟩
      replace hb := bCall hb b1
      replace r1 := r1.more_later b1
      replace r2 := r2.more_later b1
      replace r3 := r3.more_later b1
      clear b1 HApre
      obtain ⟨w1, rfl⟩ : ∃ w1 : World, w1 = w2 := ⟨_, rfl⟩
      have ma : Hid (∀ (i : Nat) (t : Int), i < by_.length → by_[i]? = some t → decide ((i : Int) ∈ lateUpto l by_ by_.length) = !settledB l i t) := by
        intro i t hi ht
        have h := mem_late (l := l) (by_ := by_) hi
        rw [ht] at h
        cases hs : settledB l i t
        · exact decide_eq_true (h.2 hs)
        · exact decide_eq_false (fun h2 => by rw [show (some t).getD 0 = t from rfl, hs] at h; exact absurd (h.1 h2) (by simp))
      have mb : Hid (∀ (i : Nat) (t : Int), i < by_.length → by_[i]? = some t → decide ((i : Int) ∈ lateUpto l (laterL by_ mo) by_.length) = !settledB l i (laterT mo t)) := by
        intro i t hi ht
        have h := mem_late (l := l) (by_ := laterL by_ mo) hi
        rw [show (laterL by_ mo)[i]? = some (laterT mo t) by simp [laterL, ht]] at h
        cases hs : settledB l i (laterT mo t)
        · exact decide_eq_true (h.2 hs)
        · exact decide_eq_false (fun h2 => by rw [show (some (laterT mo t)).getD 0 = laterT mo t from rfl, hs] at h; exact absurd (h.1 h2) (by simp))
      have mc : Hid (∀ (i : Nat) (t : Int), i < by_.length → by_[i]? = some t → decide ((i : Int) ∈ lateUpto (l.take j) by_ by_.length) = !settledB (l.take j) i t) := by
        intro i t hi ht
        have h := mem_late (l := l.take j) (by_ := by_) hi
        rw [ht] at h
        cases hs : settledB (l.take j) i t
        · exact decide_eq_true (h.2 hs)
        · exact decide_eq_false (fun h2 => by rw [show (some t).getD 0 = t from rfl, hs] at h; exact absurd (h.1 h2) (by simp))
      have la1 := Lib.hid (lateUpto_le l by_ by_.length)
      have la2 := Lib.hid (lateUpto_le l (laterL by_ mo) by_.length)
      have la3 := Lib.hid (lateUpto_le (l.take j) by_ by_.length)
      have Has := Lib.hid (late_sorted l by_ by_.length)
      have Har : Hid (∀ t ∈ lateUpto l by_ by_.length, 0 ≤ t ∧ t < by_.length) := fun t ht => late_range ht
      clear G1 G2 G3
      generalize lateUpto l by_ by_.length = La at *
      generalize lateUpto l (laterL by_ mo) by_.length = Lb at *
      generalize lateUpto (l.take j) by_ by_.length = Lc at *
      go_wp2_with fail
      go_loopw [106] (fun i wr => ∃ k : Nat, k ≤ by_.length ∧ i = .int .i64 k ∧ Below w1.heap.size w1 wr) (fun i _ => by_.length - (intOf i).toNat)
      case atStart => exact ⟨0, Nat.zero_le _, rfl, bRefl _⟩
      case round =>
        obtain ⟨k, hkn, rfl, hb1⟩ := hrel
        by_cases hj3 : k < by_.length
        · obtain ⟨t, ht⟩ : ∃ t, Hid (by_[k]? = some t) := ⟨_, Lib.hid (List.getElem?_eq_getElem hj3)⟩
          obtain ⟨b, off, rfl, hbb, c0⟩ := Int_at (hB.below (bCall hb hb1)) hj3 ht.out
          go_wp2_with fail
          go_loopw [22, 113] (fun s i wr2 => ∃ m : Nat, m ≤ l.length ∧ i = .int .i64 m ∧ s = .bool (settledB (l.take m) k t) ∧ Below w1.heap.size w1 wr2) (fun _ i _ => l.length - (intOf i).toNat)
          case atStart => exact ⟨0, Nat.zero_le _, rfl, rfl, hb1⟩
          case round =>
            clear hb1 c0
            obtain ⟨m, hmn, rfl, rfl, hb1⟩ := hrel
            by_cases hj4 : m < l.length
            · obtain ⟨x, hx⟩ : ∃ x, Hid (l[m]? = some x) := ⟨_, Lib.hid (List.getElem?_eq_getElem hj4)⟩
              obtain ⟨b2, off2, rfl, hbb2, e0, e1, e2, e3⟩ := Ev_at (hA.below (bCall hb hb1)) hj4 hx.out
              have hsn : Hid (settledB (l.take (m + 1)) k t = (settledB (l.take m) k t || (x.letter == (k : Int) && (decide (x.time ≤ t) && settlesB x.kind)))) := by
                obtain ⟨hk, rfl⟩ := List.getElem?_eq_some_iff.1 hx.out
                show _ = _
                rw [List.take_succ_eq_append_getElem hk, settledB_snoc]
              go_upto_region 27 with fail
              have BX := Blk.new wr 36 #[.int .i64 x.letter, .int .i64 x.kind, .int .i64 x.time, .int .i64 x.office] _ rfl
              have hb5 := bAl hb1 (.cells #[.int .i64 x.letter, .int .i64 x.kind, .int .i64 x.time, .int .i64 x.office] 36)
              clear e0 e1 e2 e3 hb1
              generalize wr.alloc (.cells #[.int .i64 x.letter, .int .i64 x.kind, .int .i64 x.time, .int .i64 x.office] 36) = w5 at *
              generalize wr.heap.size = bx at *
              obtain ⟨x0, x1, x2, x3⟩ := ev_four BX
              generalize hSe : settledB (l.take m) k t = S at *
              clear hSe BX
              have hkk : (¬ x.kind = 3 ∧ ¬ x.kind = 4 ∧ ¬ x.kind = 5 ∧ ¬ x.kind = 6 ∧ ¬ x.kind = 8) ∨ (x.kind = 3 ∨ x.kind = 4 ∨ x.kind = 5 ∨ x.kind = 6 ∨ x.kind = 8) := by omega
              rcases hkk with ⟨k3, k4, k5, k6, k8⟩ | hkk
              · replace k3 : (x.kind == 3) = false := beq_eq_false_iff_ne.2 k3
                replace k4 : (x.kind == 4) = false := beq_eq_false_iff_ne.2 k4
                replace k5 : (x.kind == 5) = false := beq_eq_false_iff_ne.2 k5
                replace k6 : (x.kind == 6) = false := beq_eq_false_iff_ne.2 k6
                replace k8 : (x.kind == 8) = false := beq_eq_false_iff_ne.2 k8
                have hset : Hid (settlesB x.kind = false) := by show _ = _; unfold settlesB; rw [k3, k4, k5, k6, k8]; rfl
                go_wp2_with fail
                go_roundw
                case rel => exact ⟨m + 1, by omega, by go_num, by rw [hsn.out, hset.out]; simp, hb5⟩
                case measure => simp [intOf]; omega
              · have hset : Hid (settlesB x.kind = true) := by show _ = _; unfold settlesB; rcases hkk with h | h | h | h | h <;> (rw [h]; rfl)
                rw [hset.out, Bool.and_true] at hsn
                clear hset
                rcases hkk with h | h | h | h | h
                all_goals
                  rw [h] at x1
                  clear h
                  cases S
                  · by_cases hxl : x.letter = (k : Int)
                    · have hxl' : (x.letter == (k : Int)) = true := beq_iff_eq.2 hxl
                      clear hxl
                      have Hsn : Hid (settledB (l.take (m + 1)) k t = decide (x.time ≤ t)) := by show _ = _; rw [hsn.out, hxl']; simp
                      clear hsn
                      go_wp2_with fail
                      go_roundw
                      case rel => exact ⟨m + 1, by omega, by go_num, by rw [Hsn.out], hb5⟩
                      case measure => simp [intOf]; omega
                    · have hxl' : (x.letter == (k : Int)) = false := beq_eq_false_iff_ne.2 hxl
                      clear hxl
                      have Hsn : Hid (settledB (l.take (m + 1)) k t = false) := by show _ = _; rw [hsn.out, hxl']; simp
                      clear hsn
                      go_wp2_with fail
                      go_roundw
                      case rel => exact ⟨m + 1, by omega, by go_num, by rw [Hsn.out], hb5⟩
                      case measure => simp [intOf]; omega
                  · have Hsn : Hid (settledB (l.take (m + 1)) k t = true) := by show _ = _; rw [hsn.out]; simp
                    clear hsn
                    go_wp2_with fail
                    go_roundw
                    case rel => exact ⟨m + 1, by omega, by go_num, by rw [Hsn.out], hb5⟩
                    case measure => simp [intOf]; omega
            · have hm : m = l.length := by omega
              subst hm
              rw [List.take_length]
              have n1 : La.length ≤ 9223372036854775807 := by have := la1.out; omega
              have n2 : Lb.length ≤ 9223372036854775807 := by have := la2.out; omega
              have n3 : Lc.length ≤ 9223372036854775807 := by have := la3.out; omega
              have qa := has_any A1 La.length c1 _ La (k : Int) wr (r1.below hb1) n1
              have qb := has_any A2 Lb.length c2 _ Lb (k : Int) wr (r2.below hb1) n2
              have qc := has_any A3 Lc.length c3 _ Lc (k : Int) wr (r3.below hb1) n3
              rw [ma.out k t hj3 ht.out] at qa
              rw [mb.out k t hj3 ht.out] at qb
              rw [mc.out k t hj3 ht.out] at qc
              have htr := hok.out t (List.mem_of_getElem? ht.out)
              have hlt := (laterT_ok hmo.1 htr).2.2
              cases hS : settledB l k t
              · have hS3 : settledB (l.take j) k t = false := by
                  cases h : settledB (l.take j) k t
                  · rfl
                  · rw [settled_pre j h] at hS; cases hS
                rw [hS] at qa
                rw [hS3] at qc
                clear hS hS3 htr hlt
                cases hS2 : settledB l k (laterT mo t)
                · rw [hS2] at qb
                  clear hS2
                  go_wp2_with fail
                  refine (qa).mono ?_
                  rintro e w' ⟨rfl, rfl⟩
                  go_wp2_with fail
                  refine (qb).mono ?_
                  rintro e w' ⟨rfl, rfl⟩
                  go_wp2_with fail
                  refine (qa).mono ?_
                  rintro e w' ⟨rfl, rfl⟩
                  go_wp2_with fail
                  refine (qa).mono ?_
                  rintro e w' ⟨rfl, rfl⟩
                  go_wp2_with fail
                  refine (qc).mono ?_
                  rintro e w' ⟨rfl, rfl⟩
                  go_wp2_with fail
                  go_roundw
                  case rel => exact ⟨k + 1, by omega, by go_num, hb1⟩
                  case measure => simp [intOf]; omega
                · rw [hS2] at qb
                  clear hS2
                  go_wp2_with fail
                  refine (qa).mono ?_
                  rintro e w' ⟨rfl, rfl⟩
                  go_wp2_with fail
                  refine (qb).mono ?_
                  rintro e w' ⟨rfl, rfl⟩
                  go_wp2_with fail
                  refine (qa).mono ?_
                  rintro e w' ⟨rfl, rfl⟩
                  go_wp2_with fail
                  refine (qc).mono ?_
                  rintro e w' ⟨rfl, rfl⟩
                  go_wp2_with fail
                  go_roundw
                  case rel => exact ⟨k + 1, by omega, by go_num, hb1⟩
                  case measure => simp [intOf]; omega
              · have hS2 := settled_mono hlt hS
                rw [hS] at qa
                rw [hS2] at qb
                clear hS hS2 htr hlt qc
                go_wp2_with fail
                refine (qa).mono ?_
                rintro e w' ⟨rfl, rfl⟩
                go_wp2_with fail
                refine (qb).mono ?_
                rintro e w' ⟨rfl, rfl⟩
                go_wp2_with fail
                refine (qa).mono ?_
                rintro e w' ⟨rfl, rfl⟩
                go_wp2_with fail
                go_roundw
                case rel => exact ⟨k + 1, by omega, by go_num, hb1⟩
                case measure => simp [intOf]; omega
        · go_wp2_with fail
          go_loopw [174] (fun i wq => ∃ k : Nat, k ≤ La.length ∧ i = .int .i64 k ∧ wr = wq) (fun i _ => La.length - (intOf i).toNat)
          case atStart => exact ⟨0, Nat.zero_le _, rfl, rfl⟩
          case round =>
            obtain ⟨k4, hk4, rfl, rfl⟩ := hrel
            have hl1 := la1.out
            have hWr := bCall hb hb1
            by_cases hj5 : k4 < La.length
            · obtain ⟨v, hv⟩ : ∃ v, Hid (La[k4]? = some v) := ⟨_, Lib.hid (List.getElem?_eq_getElem hj5)⟩
              obtain ⟨b, off, rfl, hbb, c0⟩ := Int_at (r1.below hb1) hj5 hv.out
              obtain ⟨v0, v1⟩ := Har.out v (List.mem_of_getElem? hv.out)
              have v1' : ¬ (by_.length : Int) ≤ v := by omega
              rcases Nat.eq_zero_or_pos k4 with hk0 | hk0
              · have hk1 : ¬ 0 < k4 := by omega
                have hk2 : decide (0 < k4) = false := decide_eq_false hk1
                have hk3 : decide ((0 : Int) < (k4 : Int)) = false := decide_eq_false (by omega)
                clear hk0
                go_wp2_with fail
                go_roundw
                case rel => exact ⟨k4 + 1, by omega, by go_num, by first | rfl | trivial⟩
                case measure => simp [intOf]; omega
              · obtain ⟨u, hu⟩ : ∃ u, Hid (La[k4 - 1]? = some u) := ⟨_, Lib.hid (List.getElem?_eq_getElem (by omega))⟩
                obtain ⟨b', off', he, hbb', c1'⟩ := Int_at (r1.below hb1) (k := k4 - 1) (by omega) hu.out
                injection he with he
                injection he with e1 e2
                subst e1
                subst e2
                have huv : ¬ v ≤ u := by
                  have h := List.pairwise_iff_getElem.1 Has.out (k4 - 1) k4 (by omega) hj5 (by omega)
                  obtain ⟨_, h1⟩ := List.getElem?_eq_some_iff.1 hu.out
                  obtain ⟨_, h2⟩ := List.getElem?_eq_some_iff.1 hv.out
                  rw [h1, h2] at h
                  omega
                go_wp2_with fail
                go_roundw
                case rel => exact ⟨k4 + 1, by omega, by go_num, by first | rfl | trivial⟩
                case measure => simp [intOf]; omega
            · go_wp2_with fail
              go_ret
              exact ⟨rfl, hWr⟩

theorem wf_u8 {n : Int} (h : (Lit.int .u8 n).wf = true) : 0 ≤ n ∧ n ≤ 255 := by
  have e1 : IntKind.u8.min = 0 := by decide
  have e2 : IntKind.u8.max = 255 := by decide
  simp only [Lit.wf, e1, e2, Bool.and_eq_true, decide_eq_true_eq] at h
  exact h

set_option maxRecDepth 100000 in
theorem late_lifted (os : Os) (started : os.Started) (H : Type) (enc : TypeId × Value → H) :
    ReturnsInHanded {} Try.checked os 7 .any (Rows.custodyLateSpec.pre6 enc Try.prog Try.f7 Rows.custodyLateRow.domain false) (Rows.custodyLateSpec.post enc Try.prog Try.f7 false true false false) := by
  refine returnsInHanded_of_change (C := Try.checked) own_knob started (by kernel_rfl) Try.func7
    (ChangeSpec.witness6 (enc := enc) (C := Try.checked) false ⟨#[], #[.slice none 0 0, .slice none 0 0, .int .u8 0, .int .u8 0], []⟩ 8 (by kernel_rfl) (by kernel_rfl) (by kernel_rfl) (by kernel_rfl)) ?_
  intro W base args ds gs before hval0 hW hcnd _
  have hval : ∀ (j : Nat) t v, Try.f7.params[j]? = some t → args[j]? = some v → Value.okWide Try.prog W .any base t v := hval0
  have hW' := hW
  obtain ⟨p, q, hA0, hV, rfl, hfz, hnd⟩ := hW
  have hA : DataW.TrodAll enc Try.prog W 0 (fun _ => true) true Try.f7.params.toList args.toList ds p := hA0
  rw [Try.params7] at hA hval
  obtain ⟨v0, v1, v2, v3, d0, d1, d2, d3, p0, p1, p2, p3, rfl, rfl, rfl, h0, h1, h2, h3⟩ := trodAll_four hA
  obtain ⟨rfl, rfl⟩ := trodVars_none hV
  obtain ⟨A, n, c, rfl⟩ := okWide_slice Try.underlying22 (hval 0 22 v0 rfl rfl)
  obtain ⟨B, m, d, rfl⟩ := okWide_slice Try.underlying23 (hval 1 23 v1 rfl rfl)
  have k0 := h0
  have k1 := h1
  obtain ⟨f0, hf0⟩ := h0
  obtain ⟨f1, hf1⟩ := h1
  obtain ⟨hcap, _⟩ := open_cap Try.underlying22 hf0
  obtain ⟨A', n', c', l, e0, hn, hn2, hAr⟩ := open_events hf0
  obtain ⟨B', m', d', by_, e1, hm, hm2, hBr, _⟩ := open_int_list Try.underlying23 Try.underlying3 cells_int hf1
  simp [Value.cells] at e0 e1
  obtain ⟨rfl, rfl, rfl⟩ := e0
  obtain ⟨rfl, rfl, rfl⟩ := e1
  obtain ⟨mo, rfl, rfl, rfl, w2⟩ := open_int Try.underlying5 (hval 2 5 v2 rfl rfl) h2
  obtain ⟨q, rfl, rfl, rfl, w3⟩ := open_int Try.underlying5 (hval 3 5 v3 rfl rfl) h3
  clear hA0 hval0
  subst hn
  subst hm
  unfold maxLen at hm2
  have hmo : 0 ≤ mo ∧ mo ≤ 255 := wf_u8 w2
  have hq : 0 ≤ q ∧ q ≤ 255 := wf_u8 w3
  refine (late_walk A B c d mo q l by_ W hAr hBr hcap hm2 hmo hq).mono fun e W' ⟨he, bel⟩ => ?_
  subst he
  exact ⟨_, rfl, _, _, _, [], _, [], hW', trodAll_mk1 (shut_bool Try.underlying4 _), (trodAll_mk4 (arg_stays (by kernel_rfl) (of_decide_eq_true (by kernel_rfl)) k0 bel) (arg_stays (by kernel_rfl) (of_decide_eq_true (by kernel_rfl)) k1 bel) (shut_int Try.underlying5 w2) (shut_int Try.underlying5 w3)), rfl, bel.frame _, fun h => by cases h⟩

theorem custodyLate_holds : Rows.CustodyLateSaid :=
  OpenClaim.holds_of_wide 7 Try.f7 rfl rfl rfl rfl rfl rfl rfl ⟨rfl, rfl, rfl, rfl, rfl⟩ rfl rfl rfl rfl rfl (by kernel_rfl) Try.func7 (by kernel_rfl)
    (of_decide_eq_true (by kernel_rfl)) (by unfold Func.isWrapper; first | (rw [if_pos (by decide +kernel)]; kernel_rfl) | (rw [if_neg (by decide +kernel)]; exact ⟨rfl, rfl⟩))
    (fun os started H enc _ => late_lifted os started H enc)
#print axioms custodyLate_holds

end Go.Proofs.Ytcadkfaaogclfaa
