/-
  The reference's timetable: Index, the calendar's Check, a line; walked.
-/
import Derived.Test.YtmbopkcmbiommaaGreatDoorMaq
import Derived.Test.YtmbopkcmbiommaaGreatDoorMaj
import Derived.Test.YtmbopkcmbiommaaGreatDoorMbh
import Derived.Test.YtmbopkcmbiommaaGreatDoorMak
import Derived.Test.YtmbopkcmbiommaaGreatDoorMao
namespace Go.Proofs.YtmbopkcmbiommaaGreatDoor
open Go Go.RowKit

set_option maxRecDepth 100000 in
set_option maxHeartbeats 2000000 in
theorem ra_index (A : Option Addr) (c : Nat) (l : List Int) (x : Int) (W : World) (hA : Rd W W.heap.size 1 A l.length (ints l)) (hn : l.length ≤ 1000000) :
    Calls Tryz.prog 127 #[.slice A l.length c, .int .i64 x] W (fun e w' => w' = W ∧ ((x ∈ l ∧ ∃ k : Nat, k < l.length ∧ e = .returned (.int .i64 (k : Nat))) ∨ (¬ x ∈ l ∧ e = .returned (.int .i64 (-1))))) := by
  go_enter Tryz.func127, Tryz.ntmps127
  go_wp2_with fail
  go_loopw [5] (fun i wr => ∃ k : Nat, k ≤ l.length ∧ i = .int .i64 k ∧ wr = W ∧ Hid (¬ x ∈ l.take k)) (fun i _ => l.length - (intOf i).toNat)
  case atStart => exact ⟨0, Nat.zero_le _, rfl, rfl, Lib.hid (by simp)⟩
  case round =>
    obtain ⟨k, hkn, rfl, rfl, hno⟩ := hrel
    by_cases hlt : k < l.length
    · obtain ⟨y, hy⟩ : ∃ y, Hid (l[k]? = some y) := ⟨_, Lib.hid (List.getElem?_eq_getElem hlt)⟩
      obtain ⟨b1, o1, rfl, l1, h1⟩ := hA.2 (by omega)
      have c1 := h1 k _ (ints_at hy.out)
      have i0 : (0 : Int) ≤ (k : Int) := by omega
      have i1 : (k : Int) < (l.length : Int) := by omega
      clear h1
      by_cases hxy : y = x
      · subst hxy
        have hm := Lib.hid (List.mem_of_getElem? hy.out)
        go_wp2_with fail
        go_ret
        exact ⟨rfl, .inl ⟨hm.out, k, hlt, rfl⟩⟩
      · have hne : (y == x) = false := by simpa using hxy
        have hno2 : Hid (¬ x ∈ l.take (k + 1)) := Lib.hid (by
          obtain ⟨hk, e⟩ := List.getElem?_eq_some_iff.1 hy.out
          rw [List.take_succ_eq_append_getElem hk, e]
          intro h
          rcases List.mem_append.1 h with h | h
          · exact hno.out h
          · exact hxy (List.mem_singleton.1 h).symm)
        go_wp2_with fail
        exact ⟨⟨k + 1, by omega, by go_num, trivial, hno2⟩, by simp [intOf]; omega⟩
    · have hno2 : Hid (¬ x ∈ l) := Lib.hid (by have := hno.out; rwa [List.take_of_length_le (by omega)] at this)
      go_wp2_with fail
      go_ret
      exact ⟨rfl, .inr ⟨hno2.out, rfl⟩⟩
theorem cal_big {r : List Rl} {o : List Gp} (h : 16 < r.length ∨ 64 < o.length) : calE r o = 2 := by unfold calE; rw [if_pos h]
theorem gapsB_cons {b : Int} {g : Gp} {l : List Gp} (h : b < g.from_ ∧ g.from_ < g.until_ ∧ g.until_ ≤ 2097152) : gapsB b (g :: l) = gapsB g.until_ l := by
  show (decide _ && _) = _
  rw [decide_eq_true h, Bool.true_and]
theorem gapsB_bad {b : Int} {g : Gp} {l : List Gp} (h : ¬ (b < g.from_ ∧ g.from_ < g.until_ ∧ g.until_ ≤ 2097152)) : gapsB b (g :: l) = false := by
  show (decide _ && _) = _
  rw [decide_eq_false h, Bool.false_and]
/-- Where the gap ahead ends. -/
def prevU (l : List Gp) : Nat → Int
  | 0 => -1
  | k + 1 => match l[k]? with
    | some g => g.until_
    | none => -1
set_option maxRecDepth 100000 in
set_option maxHeartbeats 8000000 in
theorem ra_cal (A B : Option Addr) (c d : Nat) (rules : List Rl) (off : List Gp) (W : World) (hA : Rd W W.heap.size 3 A rules.length (rules.flatMap Rl.cl)) (hB : Rd W W.heap.size 2 B off.length (off.flatMap Gp.cl)) (hn1 : rules.length ≤ 1000000) (hn2 : off.length ≤ 1000000) :
    Calls Tryz.prog 82 #[.slice A rules.length c, .slice B off.length d] W (Ret (.int .i64 (calE rules off)) W) := by
  obtain ⟨v, hv⟩ : ∃ v, Hid (calE rules off = v) := ⟨_, Lib.hid rfl⟩
  rw [hv.out]
  go_enter Tryz.func82, Tryz.ntmps82
  by_cases n1 : 16 < rules.length
  · have hv2 : Hid (v = 2) := Lib.hid (hv.out.symm.trans (cal_big (.inl n1)))
    have e1 : (16 : Int) < (rules.length : Int) := by omega
    clear n1
    go_wp2_with fail
    go_ret
    exact ⟨ret_int hv2.out.symm, bRefl W⟩
  by_cases n2 : 64 < off.length
  · have hv2 : Hid (v = 2) := Lib.hid (hv.out.symm.trans (cal_big (.inr n2)))
    have e1 : ¬ (16 : Int) < (rules.length : Int) := by omega
    have e2 : (64 : Int) < (off.length : Int) := by omega
    clear n1 n2
    go_wp2_with fail
    go_ret
    exact ⟨ret_int hv2.out.symm, bRefl W⟩
  have e1 : ¬ (16 : Int) < (rules.length : Int) := by omega
  have e2 : ¬ (64 : Int) < (off.length : Int) := by omega
  have hbad : Hid (∀ k r, rules[k]? = some r → ruleB r = false → v = 190) := Lib.hid (fun k r h hb => hv.out.symm.trans (rules_bad h hb off (by omega) (by omega)))
  have hgood : Hid ((∀ r ∈ rules, ruleB r = true) → v = if gapsB (-1) off = true then 0 else 190) := Lib.hid (fun h => hv.out.symm.trans (rules_good h off (by omega) (by omega)))
  replace n1 := Lib.hid n1
  replace n2 := Lib.hid n2
  go_wp2_with fail
  clear e1 e2
  go_loopw [5] (fun i wr => ∃ k : Nat, k ≤ rules.length ∧ i = .int .i64 k ∧ Below W.heap.size W wr ∧ Hid (∀ r ∈ rules.take k, ruleB r = true)) (fun i _ => rules.length - (intOf i).toNat)
  case atStart => exact ⟨0, Nat.zero_le _, rfl, bRefl W, Lib.hid (by simp)⟩
  case round =>
    obtain ⟨k, hkn, rfl, hb, hp⟩ := hrel
    by_cases hlt : k < rules.length
    · obtain ⟨x, hx⟩ : ∃ y, Hid (rules[k]? = some y) := ⟨_, Lib.hid (List.getElem?_eq_getElem hlt)⟩
      obtain ⟨b1, o1, rfl, l1, hc⟩ := Cl_at (f := Rl.cl) (fun _ _ => rfl) (hA.below hb) hlt hx.out
      have c0 := hc 0 (by omega)
      have c1 := hc 1 (by omega)
      have c2 := hc 2 (by omega)
      simp only [Rl.cl, List.getElem?_cons_zero, List.getElem?_cons_succ, Nat.add_zero] at c0 c1 c2
      have i0 : (0 : Int) ≤ (k : Int) := by omega
      have i1 : (k : Int) < (rules.length : Int) := by omega
      have BY := Blk.new wr 59 #[.int .i64 x.first, .int .i64 x.until_, .int .i64 x.every] _ rfl
      have d0 := BY.cell 0
      have d1 := BY.cell 1
      have d2 := BY.cell 2
      have hb2 := bAl hb (.cells #[.int .i64 x.first, .int .i64 x.until_, .int .i64 x.every] 59)
      clear hc BY
      by_cases f0 : x.first < 0
      · have hv2 := Lib.hid (hbad.out k x hx.out (ruleB_no (by omega)))
        go_wp2_with fail
        go_ret
        exact ⟨ret_int hv2.out.symm, hb2⟩
      by_cases f1 : x.until_ ≤ x.first
      · have hv2 := Lib.hid (hbad.out k x hx.out (ruleB_no (by omega)))
        go_wp2_with fail
        go_ret
        exact ⟨ret_int hv2.out.symm, hb2⟩
      by_cases f2 : 2097152 < x.until_
      · have hv2 := Lib.hid (hbad.out k x hx.out (ruleB_no (by omega)))
        go_wp2_with fail
        go_ret
        exact ⟨ret_int hv2.out.symm, hb2⟩
      by_cases f3 : x.every < 1
      · have hv2 := Lib.hid (hbad.out k x hx.out (ruleB_no (by omega)))
        go_wp2_with fail
        go_ret
        exact ⟨ret_int hv2.out.symm, hb2⟩
      by_cases f4 : 2097152 < x.every
      · have hv2 := Lib.hid (hbad.out k x hx.out (ruleB_no (by omega)))
        go_wp2_with fail
        go_ret
        exact ⟨ret_int hv2.out.symm, hb2⟩
      have hp2 := Lib.hid (all_on hp.out hx.out (decide_eq_true (by omega) : ruleB x = true))
      go_wp2_with fail
      exact ⟨⟨k + 1, by omega, by go_num, hb2, hp2⟩, by simp [intOf]; omega⟩
    · have hv3 := Lib.hid (hgood.out (by have := hp.out; rwa [List.take_of_length_le (by omega)] at this))
      clear hp hbad hgood
      go_wp2_with fail
      go_loopw [7] (fun i wr => ∃ k : Nat, k ≤ off.length ∧ i = .int .i64 k ∧ Below W.heap.size W wr ∧ Hid (gapsB (-1) off = gapsB (prevU off k) (off.drop k) ∧ -1 ≤ prevU off k)) (fun i _ => off.length - (intOf i).toNat)
      case atStart => exact ⟨0, Nat.zero_le _, rfl, hb, Lib.hid ⟨rfl, by show (-1 : Int) ≤ -1; omega⟩⟩
      case round =>
        clear hb
        obtain ⟨k, hkn, rfl, hb, hp⟩ := hrel
        by_cases hlt : k < off.length
        · obtain ⟨x, hx⟩ : ∃ y, Hid (off[k]? = some y) := ⟨_, Lib.hid (List.getElem?_eq_getElem hlt)⟩
          have hdrop : Hid (off.drop k = x :: off.drop (k + 1)) := Lib.hid (by
            obtain ⟨hk, e⟩ := List.getElem?_eq_some_iff.1 hx.out
            rw [List.drop_eq_getElem_cons hk, e])
          have hnext : Hid (prevU off (k + 1) = x.until_) := Lib.hid (by show (match off[k]? with | some g => g.until_ | none => -1) = _; rw [hx.out])
          obtain ⟨b1, o1, rfl, l1, hc⟩ := Cl_at (f := Gp.cl) (fun _ _ => rfl) (hB.below hb) hlt hx.out
          have c0 := hc 0 (by omega)
          have c1 := hc 1 (by omega)
          simp only [Gp.cl, List.getElem?_cons_zero, List.getElem?_cons_succ, Nat.add_zero] at c0 c1
          clear hc
          have i0 : (0 : Int) ≤ (k : Int) := by omega
          have i1 : (k : Int) < (off.length : Int) := by omega
          have BY := Blk.new wr 61 #[.int .i64 x.from_, .int .i64 x.until_] _ rfl
          have hb2 := bAl hb (.cells #[.int .i64 x.from_, .int .i64 x.until_] 61)
          have hbad2 : Hid (¬ (prevU off k < x.from_ ∧ x.from_ < x.until_ ∧ x.until_ ≤ 2097152) → v = 190) := Lib.hid (fun h => by rw [hv3.out, hp.out.1, hdrop.out, gapsB_bad h]; rfl)
          have hgood2 : Hid ((prevU off k < x.from_ ∧ x.from_ < x.until_ ∧ x.until_ ≤ 2097152) → gapsB (-1) off = gapsB (prevU off (k + 1)) (off.drop (k + 1)) ∧ -1 ≤ prevU off (k + 1)) := Lib.hid (fun h => ⟨by rw [hp.out.1, hdrop.out, gapsB_cons h, hnext.out], by rw [hnext.out]; have := hp.out.2; omega⟩)
          have hm1 := hp.out.2
          have BL2 := BY.lt
          have KS : Hid (∀ w', Below (wr.alloc (.cells #[.int .i64 x.from_, .int .i64 x.until_] 61)).heap.size (wr.alloc (.cells #[.int .i64 x.from_, .int .i64 x.until_] 61)) w' → w'.cell? ⟨wr.heap.size, 0, none⟩ = some (.int .i64 x.from_) ∧ w'.cell? ⟨wr.heap.size, 1, none⟩ = some (.int .i64 x.until_)) := Lib.hid (fun w' h => ⟨(BY.below h BL2).cell 0, (BY.below h BL2).cell 1⟩)
          by_cases f0 : x.from_ < 0
          · have hv4 := Lib.hid (hbad2.out (by omega))
            go_upto_region 13 with fail
            refine wp_region_schB (f := 29) KS [(0, 1), (1, 2), (2, 1), (3, 1), (4, 1), (5, 1), (6, 1), (7, 1), (8, 1), (9, 1), (10, 1), (11, 1), (12, 1), (13, 1), (14, 1), (15, 1), (16, 1), (17, 1), (18, 1), (19, 1), (20, 1), (21, 1), (22, 1), (23, 1), (24, 1), (25, 1), (26, 1), (27, 1), (28, 1), (29, 3)] ?_
            simp only [pickS, List.getElem?_cons_zero, List.getElem?_cons_succ]
            refine wpSched_t ?_
            refine wpSched_r ?_
            refine wpSched_t ?_
            refine wpSched_t ?_
            refine wpSched_p ?_
            refine wpSched_p ?_
            refine wpSched_p ?_
            refine wpSched_p ?_
            refine wpSched_p ?_
            refine wpSched_t ?_
            refine wpSched_t ?_
            refine wpSched_p ?_
            refine wpSched_p ?_
            refine wpSched_p ?_
            refine wpSched_t ?_
            refine wpSched_t ?_
            refine wpSched_p ?_
            refine wpSched_p ?_
            refine wpSched_p ?_
            refine wpSched_p ?_
            refine wpSched_p ?_
            refine wpSched_p ?_
            refine wpSched_p ?_
            refine wpSched_p ?_
            refine wpSched_p ?_
            refine wpSched_p ?_
            refine wpSched_p ?_
            refine wpSched_p ?_
            refine wpSched_p ?_
            refine wpSched_last ?_
            first | simp only [List.map_nil] | simp only [List.map_cons, List.map_nil]
            go_wp2_with fail
            refine NoPanic.normal ?_
            go_wp2_with fail
            go_ret
            exact ⟨ret_int hv4.out.symm, bDr hb2⟩
          by_cases f1 : x.until_ ≤ x.from_
          · have hv4 := Lib.hid (hbad2.out (by omega))
            go_upto_region 13 with fail
            refine wp_region_schB (f := 29) KS [(0, 1), (1, 2), (2, 1), (3, 1), (4, 1), (5, 2), (6, 1), (7, 2), (8, 1), (9, 1), (10, 1), (11, 1), (12, 1), (13, 1), (14, 1), (15, 1), (16, 1), (17, 1), (18, 1), (19, 1), (20, 1), (21, 1), (22, 1), (23, 1), (24, 1), (25, 1), (26, 1), (27, 1), (28, 1), (29, 3)] ?_
            simp only [pickS, List.getElem?_cons_zero, List.getElem?_cons_succ]
            refine wpSched_t ?_
            refine wpSched_r ?_
            refine wpSched_t ?_
            refine wpSched_t ?_
            refine wpSched_t ?_
            refine wpSched_r ?_
            refine wpSched_t ?_
            refine wpSched_r ?_
            refine wpSched_t ?_
            refine wpSched_t ?_
            refine wpSched_t ?_
            refine wpSched_p ?_
            refine wpSched_p ?_
            refine wpSched_p ?_
            refine wpSched_t ?_
            refine wpSched_t ?_
            refine wpSched_p ?_
            refine wpSched_p ?_
            refine wpSched_p ?_
            refine wpSched_p ?_
            refine wpSched_p ?_
            refine wpSched_p ?_
            refine wpSched_p ?_
            refine wpSched_p ?_
            refine wpSched_p ?_
            refine wpSched_p ?_
            refine wpSched_p ?_
            refine wpSched_p ?_
            refine wpSched_p ?_
            refine wpSched_last ?_
            first | simp only [List.map_nil] | simp only [List.map_cons, List.map_nil]
            go_wp2_with fail
            refine NoPanic.normal ?_
            go_wp2_with fail
            go_ret
            exact ⟨ret_int hv4.out.symm, bDr hb2⟩
          by_cases f2 : 2097152 < x.until_
          · have hv4 := Lib.hid (hbad2.out (by omega))
            go_upto_region 13 with fail
            refine wp_region_schB (f := 29) KS [(0, 1), (1, 2), (2, 1), (3, 1), (4, 1), (5, 2), (6, 1), (7, 2), (8, 1), (9, 1), (10, 1), (11, 1), (12, 2), (13, 1), (14, 1), (15, 1), (16, 1), (17, 1), (18, 1), (19, 1), (20, 1), (21, 1), (22, 1), (23, 1), (24, 1), (25, 1), (26, 1), (27, 1), (28, 1), (29, 3)] ?_
            simp only [pickS, List.getElem?_cons_zero, List.getElem?_cons_succ]
            refine wpSched_t ?_
            refine wpSched_r ?_
            refine wpSched_t ?_
            refine wpSched_t ?_
            refine wpSched_t ?_
            refine wpSched_r ?_
            refine wpSched_t ?_
            refine wpSched_r ?_
            refine wpSched_t ?_
            refine wpSched_t ?_
            refine wpSched_t ?_
            refine wpSched_t ?_
            refine wpSched_r ?_
            refine wpSched_t ?_
            refine wpSched_t ?_
            refine wpSched_t ?_
            refine wpSched_p ?_
            refine wpSched_p ?_
            refine wpSched_p ?_
            refine wpSched_p ?_
            refine wpSched_p ?_
            refine wpSched_p ?_
            refine wpSched_p ?_
            refine wpSched_p ?_
            refine wpSched_p ?_
            refine wpSched_p ?_
            refine wpSched_p ?_
            refine wpSched_p ?_
            refine wpSched_p ?_
            refine wpSched_last ?_
            first | simp only [List.map_nil] | simp only [List.map_cons, List.map_nil]
            go_wp2_with fail
            refine NoPanic.normal ?_
            go_wp2_with fail
            go_ret
            exact ⟨ret_int hv4.out.symm, bDr hb2⟩
          obtain _ | k' := k
          · have hP0 : prevU off 0 = -1 := rfl
            simp only [Nat.zero_mul, Nat.add_zero] at c0 c1
            have ci0 := c0
            have ci1 := c1
            simp only [Int.natCast_zero] at i0 i1
            have hnx := Lib.hid (hgood2.out (by rw [hP0]; omega))
            clear hbad2 hgood2 hm1
            go_upto_region 13 with fail
            refine wp_region_schB (f := 29) KS [(0, 1), (1, 2), (2, 1), (3, 1), (4, 1), (5, 2), (6, 1), (7, 2), (8, 1), (9, 1), (10, 1), (11, 1), (12, 2), (13, 1), (14, 1), (15, 1), (16, 1), (17, 1), (18, 1), (19, 1), (20, 1), (21, 1), (22, 1), (23, 1), (24, 1), (25, 1), (26, 1), (27, 1), (28, 1), (29, 3)] ?_
            simp only [pickS, List.getElem?_cons_zero, List.getElem?_cons_succ]
            refine wpSched_t ?_
            refine wpSched_r ?_
            refine wpSched_t ?_
            refine wpSched_t ?_
            refine wpSched_t ?_
            refine wpSched_r ?_
            refine wpSched_t ?_
            refine wpSched_r ?_
            refine wpSched_t ?_
            refine wpSched_t ?_
            refine wpSched_t ?_
            refine wpSched_t ?_
            refine wpSched_r ?_
            refine wpSched_t ?_
            refine wpSched_t ?_
            refine wpSched_t ?_
            refine wpSched_t ?_
            refine wpSched_t ?_
            refine wpSched_t ?_
            refine wpSched_p ?_
            refine wpSched_p ?_
            refine wpSched_p ?_
            refine wpSched_p ?_
            refine wpSched_p ?_
            refine wpSched_p ?_
            refine wpSched_p ?_
            refine wpSched_p ?_
            refine wpSched_p ?_
            refine wpSched_t ?_
            refine wpSched_last ?_
            first | simp only [List.map_nil] | simp only [List.map_cons, List.map_nil]
            go_wp2_with fail
            refine NoPanic.normal ?_
            go_wp2_with fail
            exact ⟨⟨0 + 1, by omega, by go_num, bDr hb2, Lib.hid hnx.out⟩, by simp [intOf]; omega⟩
          · obtain ⟨z, hz⟩ : ∃ y, Hid (off[k']? = some y) := ⟨_, Lib.hid (List.getElem?_eq_getElem (by omega))⟩
            have hPz : prevU off (k' + 1) = z.until_ := by show (match off[k']? with | some g => g.until_ | none => -1) = _; rw [hz.out]
            rw [hPz] at hbad2 hgood2
            obtain ⟨b3, o3, e3, l3, hc3⟩ := Cl_at (f := Gp.cl) (fun _ _ => rfl) (hB.below hb) (show k' < off.length by omega) hz.out
            injection e3 with e3
            injection e3 with e3 e4
            subst e3
            subst e4
            have c3 := hc3 1 (by omega)
            simp only [Gp.cl, List.getElem?_cons_zero, List.getElem?_cons_succ] at c3
            have hbz := hb.size
            have i2 : (0 : Int) ≤ (k' : Int) := by omega
            have i3 : (k' : Int) < (off.length : Int) := by omega
            have i4 : IntKind.i64.wrap (k' : Int) = (k' : Int) := by rw [IntKind.wrap_i64]; omega
            have KT : Hid (∀ w', Below (wr.alloc (.cells #[.int .i64 x.from_, .int .i64 x.until_] 61)).heap.size (wr.alloc (.cells #[.int .i64 x.from_, .int .i64 x.until_] 61)) w' → w'.cell? ⟨wr.heap.size, 0, none⟩ = some (.int .i64 x.from_) ∧ w'.cell? ⟨wr.heap.size, 1, none⟩ = some (.int .i64 x.until_) ∧ w'.cell? ⟨b1, o1 + k' * 2 + 1, none⟩ = some (.int .i64 z.until_)) := Lib.hid (fun w' h => ⟨(KS.out w' h).1, (KS.out w' h).2, (h.cell (p := ⟨b1, o1 + k' * 2 + 1, none⟩) (by show b1 < _; simp; omega)).trans ((World.cell?_alloc_old _ _ _ (by show b1 ≠ _; omega)).trans c3)⟩)
            clear hc3 c3
            by_cases f3 : x.from_ ≤ z.until_
            · have hv4 := Lib.hid (hbad2.out (by omega))
              go_upto_region 13 with fail
              refine wp_region_schB (f := 29) KT [(0, 1), (1, 2), (2, 1), (3, 1), (4, 1), (5, 2), (6, 1), (7, 2), (8, 1), (9, 1), (10, 1), (11, 1), (12, 2), (13, 1), (14, 1), (15, 1), (16, 1), (17, 1), (18, 1), (19, 1), (20, 2), (21, 1), (22, 1), (23, 1), (24, 1), (25, 1), (26, 2), (27, 1), (28, 1), (29, 3)] ?_
              simp only [pickS, List.getElem?_cons_zero, List.getElem?_cons_succ]
              refine wpSched_t ?_
              refine wpSched_r ?_
              refine wpSched_t ?_
              refine wpSched_t ?_
              refine wpSched_t ?_
              refine wpSched_r ?_
              refine wpSched_t ?_
              refine wpSched_r ?_
              refine wpSched_t ?_
              refine wpSched_t ?_
              refine wpSched_t ?_
              refine wpSched_t ?_
              refine wpSched_r ?_
              refine wpSched_t ?_
              refine wpSched_t ?_
              refine wpSched_t ?_
              refine wpSched_t ?_
              refine wpSched_t ?_
              refine wpSched_t ?_
              refine wpSched_t ?_
              refine wpSched_r ?_
              refine wpSched_t ?_
              refine wpSched_t ?_
              refine wpSched_t ?_
              refine wpSched_t ?_
              refine wpSched_t ?_
              refine wpSched_r ?_
              refine wpSched_t ?_
              refine wpSched_t ?_
              refine wpSched_last ?_
              first | simp only [List.map_nil] | simp only [List.map_cons, List.map_nil]
              go_wp2_with fail
              refine NoPanic.normal ?_
              go_wp2_with fail
              go_ret
              exact ⟨ret_int hv4.out.symm, bDr hb2⟩
            have hnx := Lib.hid (hgood2.out (by omega))
            clear hbad2 hgood2 hm1 hPz
            go_upto_region 13 with fail
            refine wp_region_schB (f := 29) KT [(0, 1), (1, 2), (2, 1), (3, 1), (4, 1), (5, 2), (6, 1), (7, 2), (8, 1), (9, 1), (10, 1), (11, 1), (12, 2), (13, 1), (14, 1), (15, 1), (16, 1), (17, 1), (18, 1), (19, 1), (20, 2), (21, 1), (22, 1), (23, 1), (24, 1), (25, 1), (26, 2), (27, 1), (28, 1), (29, 3)] ?_
            simp only [pickS, List.getElem?_cons_zero, List.getElem?_cons_succ]
            refine wpSched_t ?_
            refine wpSched_r ?_
            refine wpSched_t ?_
            refine wpSched_t ?_
            refine wpSched_t ?_
            refine wpSched_r ?_
            refine wpSched_t ?_
            refine wpSched_r ?_
            refine wpSched_t ?_
            refine wpSched_t ?_
            refine wpSched_t ?_
            refine wpSched_t ?_
            refine wpSched_r ?_
            refine wpSched_t ?_
            refine wpSched_t ?_
            refine wpSched_t ?_
            refine wpSched_t ?_
            refine wpSched_t ?_
            refine wpSched_t ?_
            refine wpSched_t ?_
            refine wpSched_r ?_
            refine wpSched_t ?_
            refine wpSched_t ?_
            refine wpSched_t ?_
            refine wpSched_t ?_
            refine wpSched_t ?_
            refine wpSched_r ?_
            refine wpSched_t ?_
            refine wpSched_t ?_
            refine wpSched_last ?_
            first | simp only [List.map_nil] | simp only [List.map_cons, List.map_nil]
            go_wp2_with fail
            refine NoPanic.normal ?_
            go_wp2_with fail
            exact ⟨⟨k' + 1 + 1, by omega, by go_num, bDr hb2, Lib.hid hnx.out⟩, by simp [intOf]; omega⟩
        · have hfin : Hid (v = 0) := Lib.hid (by
            have := hp.out.1
            rw [List.drop_of_length_le (by omega)] at this
            rw [hv3.out, this]
            rfl)
          go_wp2_with fail
          go_ret
          exact ⟨ret_int hfin.out.symm, hb⟩
end Go.Proofs.YtmbopkcmbiommaaGreatDoor

/-
  The reference's timetable: a line; walked.
-/
namespace Go.Proofs.YtmbopkcmbiommaaGreatDoor
open Go Go.RowKit

theorem take_moreR {α : Type} {l : List α} {k : Nat} {x : α} (h : l[k]? = some x) : l.take (k + 1) = l.take k ++ [x] := by
  obtain ⟨hk, rfl⟩ := List.getElem?_eq_some_iff.1 h
  exact List.take_succ_eq_append_getElem hk
theorem right_iff {x : Lin} {n : Int} : x.right n = true ↔ ((2 ≤ x.offs.length ∧ x.offs.length ≤ 9) ∧ x.legs.length + 1 = x.offs.length) ∧ (((1 ≤ x.cls ∧ x.cls ≤ 255) ∧ (1 ≤ x.room ∧ x.room ≤ 64)) ∧ (((∀ o ∈ x.offs, 0 ≤ o ∧ o < n) ∧ x.offs.Nodup) ∧ ∀ g ∈ x.legs, 1 ≤ g ∧ g ≤ 100000)) := by
  unfold Lin.right stopsB btw
  simp only [Bool.and_eq_true, decide_eq_true_eq, List.all_eq_true]
  constructor
  · rintro ⟨⟨⟨h1, h2⟩, h3⟩, ⟨h4, h5⟩, ⟨h6, h7⟩, h8⟩
    exact ⟨⟨⟨by omega, by omega⟩, h3⟩, ⟨h4, h5⟩, ⟨fun o ho => by have := h6 o ho; omega, h7⟩, h8⟩
  · rintro ⟨⟨⟨h1, h2⟩, h3⟩, ⟨h4, h5⟩, ⟨h6, h7⟩, h8⟩
    exact ⟨⟨⟨by omega, by omega⟩, h3⟩, ⟨h4, h5⟩, ⟨fun o ho => by have := h6 o ho; omega, h7⟩, h8⟩
theorem right_not {x : Lin} {n : Int} (h : ¬ (((2 ≤ x.offs.length ∧ x.offs.length ≤ 9) ∧ x.legs.length + 1 = x.offs.length) ∧ (((1 ≤ x.cls ∧ x.cls ≤ 255) ∧ (1 ≤ x.room ∧ x.room ≤ 64)) ∧ (((∀ o ∈ x.offs, 0 ≤ o ∧ o < n) ∧ x.offs.Nodup) ∧ ∀ g ∈ x.legs, 1 ≤ g ∧ g ≤ 100000)))) : x.right n = false := by
  rw [← Bool.not_eq_true]
  exact fun h2 => h (right_iff.1 h2)
set_option maxRecDepth 100000 in
set_option maxHeartbeats 8000000 in
theorem ra_right (s : LS) (x : Lin) (n : Int) (W : World) (hA : LinAt W W.heap.size s x) (hcap : x.offs.length ≤ s.c0) (h1 : x.offs.length ≤ 1000000) (h2 : x.legs.length ≤ 1000000) :
    Calls Tryz.prog 81 #[.agg (s.cl x).toArray, .int .i64 n] W (Ret (.bool (x.right n)) W) := by
  obtain ⟨v, hv⟩ : ∃ v, Hid (x.right n = v) := ⟨_, Lib.hid rfl⟩
  rw [hv.out]
  have hbad : Hid (¬ (((2 ≤ x.offs.length ∧ x.offs.length ≤ 9) ∧ x.legs.length + 1 = x.offs.length) ∧ (((1 ≤ x.cls ∧ x.cls ≤ 255) ∧ (1 ≤ x.room ∧ x.room ≤ 64)) ∧ (((∀ o ∈ x.offs, 0 ≤ o ∧ o < n) ∧ x.offs.Nodup) ∧ ∀ g ∈ x.legs, 1 ≤ g ∧ g ≤ 100000))) → v = false) := Lib.hid (fun h => hv.out.symm.trans (right_not h))
  have r0 := hA.r0
  have r1 := hA.r1
  clear hA
  obtain ⟨A0, A1, A2, A3, m0, m1, m2, m3⟩ := s
  unfold LS.cl
  dsimp only at r0 r1 hcap ⊢
  have BX := Blk.new W 56 #[.slice A0 x.offs.length m0, .slice A1 x.legs.length m1, .int .i64 x.cls, .int .i64 x.room, .slice A2 x.rules.length m2, .slice A3 x.off.length m3] _ rfl
  have hb := bAl (bRefl W) (.cells #[.slice A0 x.offs.length m0, .slice A1 x.legs.length m1, .int .i64 x.cls, .int .i64 x.room, .slice A2 x.rules.length m2, .slice A3 x.off.length m3] 56)
  go_enter Tryz.func81, Tryz.ntmps81
  go_upto_region 1 with fail
  generalize W.alloc _ = w1 at *
  have a0 := BX.cell 0
  have a1 := BX.cell 1
  have a2 := BX.cell 2
  have a3 := BX.cell 3
  by_cases f0 : x.offs.length < 2
  · have hv2 := Lib.hid (hbad.out (by omega))
    have g0 : (x.offs.length : Int) < 2 := by omega
    clear f0
    go_wp2_with fail
    go_ret
    exact ⟨ret_bool hv2.out.symm, hb⟩
  have g0 : ¬ (x.offs.length : Int) < 2 := by omega
  by_cases f1 : 9 < x.offs.length
  · have hv2 := Lib.hid (hbad.out (by omega))
    have g1 : (9 : Int) < (x.offs.length : Int) := by omega
    clear f1
    go_wp2_with fail
    go_ret
    exact ⟨ret_bool hv2.out.symm, hb⟩
  have g1 : ¬ (9 : Int) < (x.offs.length : Int) := by omega
  by_cases f2 : x.legs.length + 1 ≠ x.offs.length
  · have hv2 := Lib.hid (hbad.out (by omega))
    have g2 : ((x.legs.length : Int) != (x.offs.length : Int) - 1) = true := by simp only [bne_iff_ne, ne_eq]; omega
    clear f2
    go_wp2_with fail
    go_ret
    exact ⟨ret_bool hv2.out.symm, hb⟩
  have g2 : ((x.legs.length : Int) != (x.offs.length : Int) - 1) = false := by simp only [bne_eq_false_iff_eq]; omega
  by_cases f3 : x.cls < 1
  · have hv2 := Lib.hid (hbad.out (by omega))
    go_wp2_with fail
    go_ret
    exact ⟨ret_bool hv2.out.symm, hb⟩
  by_cases f4 : 255 < x.cls
  · have hv2 := Lib.hid (hbad.out (by omega))
    go_wp2_with fail
    go_ret
    exact ⟨ret_bool hv2.out.symm, hb⟩
  by_cases f5 : x.room < 1
  · have hv2 := Lib.hid (hbad.out (by omega))
    go_wp2_with fail
    go_ret
    exact ⟨ret_bool hv2.out.symm, hb⟩
  by_cases f6 : 64 < x.room
  · have hv2 := Lib.hid (hbad.out (by omega))
    go_wp2_with fail
    go_ret
    exact ⟨ret_bool hv2.out.symm, hb⟩
  have hl9 : x.offs.length ≤ 9 := by omega
  have hl2 : 2 ≤ x.offs.length := by omega
  have hlg : x.legs.length + 1 = x.offs.length := by omega
  clear f0 f1 f2
  replace hlg := Lib.hid hlg
  go_wp2_with fail
  clear a0 a1 a2 a3 g0 g1 g2
  go_loopw [6] (fun i wr => ∃ k : Nat, k ≤ x.offs.length ∧ i = .int .i64 k ∧ Below W.heap.size W wr ∧ Blk wr W.heap.size 56 #[.slice A0 x.offs.length m0, .slice A1 x.legs.length m1, .int .i64 x.cls, .int .i64 x.room, .slice A2 x.rules.length m2, .slice A3 x.off.length m3] ∧ Hid ((∀ o ∈ x.offs.take k, 0 ≤ o ∧ o < n) ∧ (x.offs.take k).Nodup)) (fun i _ => x.offs.length - (intOf i).toNat)
  case atStart => exact ⟨0, Nat.zero_le _, rfl, hb, BX, Lib.hid (by simp)⟩
  case round =>
    clear hb BX
    obtain ⟨k, hkn, rfl, hb, BX, hp⟩ := hrel
    by_cases hlt : k < x.offs.length
    · obtain ⟨o, ho⟩ : ∃ y, Hid (x.offs[k]? = some y) := ⟨_, Lib.hid (List.getElem?_eq_getElem hlt)⟩
      have hom := List.mem_of_getElem? ho.out
      have hbz := hb.size
      obtain ⟨b1, o1, rfl, l1, hc⟩ := (r0.below hb).2 (by omega)
      have ck := hc k _ (ints_at ho.out)
      have i0 : (0 : Int) ≤ (k : Int) := by omega
      have i1 : (k : Int) < (x.offs.length : Int) := by omega
      have i2 : (k : Int) ≤ (m0 : Int) := by omega
      have htk : (x.offs.take k).length = k := by rw [List.length_take]; omega
      have q : Hid (∀ w', Below wr.heap.size wr w' → Calls Tryz.prog 127 #[.slice (some ⟨b1, o1, none⟩) k m0, .int .i64 o] w' (fun e w9 => w9 = w' ∧ ((o ∈ x.offs.take k ∧ ∃ k9 : Nat, k9 < (x.offs.take k).length ∧ e = .returned (.int .i64 (k9 : Nat))) ∨ (¬ o ∈ x.offs.take k ∧ e = .returned (.int .i64 (-1)))))) := Lib.hid (fun w' h => by
        have := ra_index (some ⟨b1, o1, none⟩) m0 (x.offs.take k) o w' ⟨by unfold ints; simp, fun _ => ⟨b1, o1, rfl, by have := h.size; omega, fun j u hu => by
          rw [h.cell (p := ⟨b1, o1 + j, none⟩) (by show b1 < _; omega)]
          refine hc j u ?_
          unfold ints at hu ⊢
          rw [List.getElem?_map, List.getElem?_take] at hu
          rw [List.getElem?_map]
          split at hu
          · exact hu
          · simp at hu⟩⟩ (by omega)
        rw [htk] at this ⊢
        exact this)
      have KS : Hid (∀ w', Below wr.heap.size wr w' → w'.cell? ⟨W.heap.size, 0, none⟩ = some (.slice (some ⟨b1, o1, none⟩) x.offs.length m0) ∧ w'.cell? ⟨b1, o1 + k, none⟩ = some (.int .i64 o)) := Lib.hid (fun w' h => ⟨(BX.below h BX.lt).cell 0, (h.cell (p := ⟨b1, o1 + k, none⟩) (by show b1 < _; omega)).trans ck⟩)
      clear hc ck htk
      by_cases f8 : o < 0
      · have hv2 := Lib.hid (hbad.out (fun h => by have := h.2.2.1.1 o hom; omega))
        go_upto_region 7 with fail
        refine wp_region_schB (f := 27) KS [(0, 1), (1, 2), (2, 1), (3, 1), (4, 2), (5, 1), (6, 1), (7, 1), (8, 1), (9, 1), (10, 1), (11, 1), (12, 1), (13, 1), (14, 1), (15, 1), (16, 1), (17, 1), (18, 1), (19, 1), (20, 1), (21, 1), (22, 1), (23, 1), (24, 1), (25, 1), (26, 1), (27, 3)] ?_
        simp only [pickS, List.getElem?_cons_zero, List.getElem?_cons_succ]
        refine wpSched_t ?_
        refine wpSched_r ?_
        refine wpSched_t ?_
        refine wpSched_t ?_
        refine wpSched_r ?_
        refine wpSched_t ?_
        refine wpSched_t ?_
        refine wpSched_p ?_
        refine wpSched_p ?_
        refine wpSched_p ?_
        refine wpSched_p ?_
        refine wpSched_p ?_
        refine wpSched_p ?_
        refine wpSched_p ?_
        refine wpSched_t ?_
        refine wpSched_t ?_
        refine wpSched_p ?_
        refine wpSched_p ?_
        refine wpSched_p ?_
        refine wpSched_p ?_
        refine wpSched_p ?_
        refine wpSched_p ?_
        refine wpSched_p ?_
        refine wpSched_p ?_
        refine wpSched_p ?_
        refine wpSched_p ?_
        refine wpSched_p ?_
        refine wpSched_last ?_
        first | simp only [List.map_nil] | simp only [List.map_cons, List.map_nil]
        go_wp2_with fail
        refine NoPanic.normal ?_
        go_wp2_with fail
        go_ret
        exact ⟨ret_bool hv2.out.symm, bDr hb⟩
      by_cases f9 : n ≤ o
      · have hv2 := Lib.hid (hbad.out (fun h => by have := h.2.2.1.1 o hom; omega))
        go_upto_region 7 with fail
        refine wp_region_schB (f := 27) KS [(0, 1), (1, 2), (2, 1), (3, 1), (4, 2), (5, 1), (6, 1), (7, 1), (8, 2), (9, 1), (10, 1), (11, 2), (12, 1), (13, 1), (14, 1), (15, 1), (16, 1), (17, 1), (18, 1), (19, 1), (20, 1), (21, 1), (22, 1), (23, 1), (24, 1), (25, 1), (26, 1), (27, 3)] ?_
        simp only [pickS, List.getElem?_cons_zero, List.getElem?_cons_succ]
        refine wpSched_t ?_
        refine wpSched_r ?_
        refine wpSched_t ?_
        refine wpSched_t ?_
        refine wpSched_r ?_
        refine wpSched_t ?_
        refine wpSched_t ?_
        refine wpSched_t ?_
        refine wpSched_r ?_
        refine wpSched_t ?_
        refine wpSched_t ?_
        refine wpSched_r ?_
        refine wpSched_t ?_
        refine wpSched_t ?_
        refine wpSched_t ?_
        refine wpSched_t ?_
        refine wpSched_p ?_
        refine wpSched_p ?_
        refine wpSched_p ?_
        refine wpSched_p ?_
        refine wpSched_p ?_
        refine wpSched_p ?_
        refine wpSched_p ?_
        refine wpSched_p ?_
        refine wpSched_p ?_
        refine wpSched_p ?_
        refine wpSched_p ?_
        refine wpSched_last ?_
        first | simp only [List.map_nil] | simp only [List.map_cons, List.map_nil]
        go_wp2_with fail
        refine NoPanic.normal ?_
        go_wp2_with fail
        go_ret
        exact ⟨ret_bool hv2.out.symm, bDr hb⟩
      by_cases f10 : o ∈ x.offs.take k
      · have hv2 := Lib.hid (hbad.out (fun h => by
          have h9 := h.2.2.1.2
          rw [← List.take_append_drop (k + 1) x.offs, take_moreR ho.out] at h9
          have h10 := (List.nodup_append.1 (List.nodup_append.1 h9).1).2.2 o f10 o (by simp)
          exact h10 rfl))
        have qy : Hid (∀ w', Below wr.heap.size wr w' → Calls Tryz.prog 127 #[.slice (some ⟨b1, o1, none⟩) k m0, .int .i64 o] w' (fun e w9 => w9 = w' ∧ ∃ k9 : Nat, e = .returned (.int .i64 (k9 : Nat)))) := Lib.hid (fun w' h => (q.out w' h).mono (by
          rintro e w9 ⟨h1, ⟨_, k9, _, h2⟩ | ⟨h2, _⟩⟩
          · exact ⟨h1, k9, h2⟩
          · exact absurd f10 h2))
        clear q f10
        go_upto_region 7 with fail
        refine wp_region_schB (f := 27) KS [(0, 1), (1, 2), (2, 1), (3, 1), (4, 2), (5, 1), (6, 1), (7, 1), (8, 2), (9, 1), (10, 1), (11, 2), (12, 1), (13, 1), (14, 1), (15, 1), (16, 1), (17, 2), (18, 1), (19, 1), (20, 1), (21, 2), (22, 1), (23, 1), (24, 2), (25, 0), (26, 1), (27, 3)] ?_
        simp only [pickS, List.getElem?_cons_zero, List.getElem?_cons_succ]
        refine wpSched_t ?_
        refine wpSched_r ?_
        refine wpSched_t ?_
        refine wpSched_t ?_
        refine wpSched_r ?_
        refine wpSched_t ?_
        refine wpSched_t ?_
        refine wpSched_t ?_
        refine wpSched_r ?_
        refine wpSched_t ?_
        refine wpSched_t ?_
        refine wpSched_r ?_
        refine wpSched_t ?_
        refine wpSched_t ?_
        refine wpSched_t ?_
        refine wpSched_t ?_
        refine wpSched_t ?_
        refine wpSched_r ?_
        refine wpSched_t ?_
        refine wpSched_t ?_
        refine wpSched_t ?_
        refine wpSched_r ?_
        refine wpSched_t ?_
        refine wpSched_t ?_
        refine wpSched_r ?_
        refine wpSched_force (fun K hK => ?_)
        go_simp; (first | (go_at_call 127; (with_reducible refine (qy.out _ (bDr (bRefl _))).mono ?_); rintro e w6 ⟨rfl, k9, rfl⟩) | skip)
        refine shut_go hK KS ?_
        clear hK K
        refine wpSched_t ?_
        refine wpSched_last ?_
        first | simp only [List.map_nil] | simp only [List.map_cons, List.map_nil]
        go_wp2_with fail
        refine NoPanic.normal ?_
        go_wp2_with fail
        go_ret
        exact ⟨ret_bool hv2.out.symm, bDr hb⟩
      · have qn : Hid (∀ w', Below wr.heap.size wr w' → Calls Tryz.prog 127 #[.slice (some ⟨b1, o1, none⟩) k m0, .int .i64 o] w' (fun e w9 => w9 = w' ∧ e = .returned (.int .i64 (-1)))) := Lib.hid (fun w' h => (q.out w' h).mono (by
          rintro e w9 ⟨h1, ⟨h2, _⟩ | ⟨_, h2⟩⟩
          · exact absurd h2 f10
          · exact ⟨h1, h2⟩))
        have hp2 : Hid ((∀ o ∈ x.offs.take (k + 1), 0 ≤ o ∧ o < n) ∧ (x.offs.take (k + 1)).Nodup) := Lib.hid (by
          rw [take_moreR ho.out]
          refine ⟨fun z hz => ?_, List.nodup_append.2 ⟨hp.out.2, by simp, fun a ha b hb2 e => ?_⟩⟩
          · rcases List.mem_append.1 hz with hz | hz
            · exact hp.out.1 z hz
            · obtain rfl := List.mem_singleton.1 hz
              exact ⟨by omega, by omega⟩
          · obtain rfl := List.mem_singleton.1 hb2
            subst e
            exact f10 ha)
        clear q f10
        go_upto_region 7 with fail
        refine wp_region_schB (f := 27) KS [(0, 1), (1, 2), (2, 1), (3, 1), (4, 2), (5, 1), (6, 1), (7, 1), (8, 2), (9, 1), (10, 1), (11, 2), (12, 1), (13, 1), (14, 1), (15, 1), (16, 1), (17, 2), (18, 1), (19, 1), (20, 1), (21, 2), (22, 1), (23, 1), (24, 2), (25, 0), (26, 1), (27, 3)] ?_
        simp only [pickS, List.getElem?_cons_zero, List.getElem?_cons_succ]
        refine wpSched_t ?_
        refine wpSched_r ?_
        refine wpSched_t ?_
        refine wpSched_t ?_
        refine wpSched_r ?_
        refine wpSched_t ?_
        refine wpSched_t ?_
        refine wpSched_t ?_
        refine wpSched_r ?_
        refine wpSched_t ?_
        refine wpSched_t ?_
        refine wpSched_r ?_
        refine wpSched_t ?_
        refine wpSched_t ?_
        refine wpSched_t ?_
        refine wpSched_t ?_
        refine wpSched_t ?_
        refine wpSched_r ?_
        refine wpSched_t ?_
        refine wpSched_t ?_
        refine wpSched_t ?_
        refine wpSched_r ?_
        refine wpSched_t ?_
        refine wpSched_t ?_
        refine wpSched_r ?_
        refine wpSched_force (fun K hK => ?_)
        go_simp; (first | (go_at_call 127; (with_reducible refine (qn.out _ (bDr (bRefl _))).mono ?_); rintro e w6 ⟨rfl, rfl⟩) | skip)
        refine shut_go hK KS ?_
        clear hK K
        refine wpSched_t ?_
        refine wpSched_last ?_
        first | simp only [List.map_nil] | simp only [List.map_cons, List.map_nil]
        go_wp2_with fail
        refine NoPanic.normal ?_
        go_wp2_with fail
        exact ⟨⟨k + 1, by omega, by go_num, bDr hb, BX, hp2⟩, by simp [intOf]; omega⟩
    · have hp2 : Hid ((∀ o ∈ x.offs, 0 ≤ o ∧ o < n) ∧ x.offs.Nodup) := Lib.hid (by have := hp.out; rwa [List.take_of_length_le (by omega)] at this)
      clear hp
      go_wp2_with fail
      go_loopw [7] (fun i wr => ∃ k : Nat, k ≤ x.legs.length ∧ i = .int .i64 k ∧ Below W.heap.size W wr ∧ Blk wr W.heap.size 56 #[.slice A0 x.offs.length m0, .slice A1 x.legs.length m1, .int .i64 x.cls, .int .i64 x.room, .slice A2 x.rules.length m2, .slice A3 x.off.length m3] ∧ Hid (∀ g ∈ x.legs.take k, 1 ≤ g ∧ g ≤ 100000)) (fun i _ => x.legs.length - (intOf i).toNat)
      case atStart => exact ⟨0, Nat.zero_le _, rfl, hb, BX, Lib.hid (by simp)⟩
      case round =>
        clear hb BX
        obtain ⟨k, hkn, rfl, hb, BX, hp⟩ := hrel
        by_cases hlt : k < x.legs.length
        · obtain ⟨o, ho⟩ : ∃ y, Hid (x.legs[k]? = some y) := ⟨_, Lib.hid (List.getElem?_eq_getElem hlt)⟩
          have hom := List.mem_of_getElem? ho.out
          obtain ⟨b1, o1, rfl, l1, hc⟩ := (r1.below hb).2 (by omega)
          have ck := hc k _ (ints_at ho.out)
          have a1 := BX.cell 1
          have i0 : (0 : Int) ≤ (k : Int) := by omega
          have i1 : (k : Int) < (x.legs.length : Int) := by omega
          have i2 : (k : Int) < (x.offs.length : Int) - 1 := by have := hlg.out; omega
          clear hc
          by_cases f8 : o < 1
          · have hv2 := Lib.hid (hbad.out (fun h => by have := h.2.2.2 o hom; omega))
            go_wp2_with fail
            go_ret
            exact ⟨ret_bool hv2.out.symm, hb⟩
          by_cases f9 : 100000 < o
          · have hv2 := Lib.hid (hbad.out (fun h => by have := h.2.2.2 o hom; omega))
            go_wp2_with fail
            go_ret
            exact ⟨ret_bool hv2.out.symm, hb⟩
          have hp3 : Hid (∀ g ∈ x.legs.take (k + 1), 1 ≤ g ∧ g ≤ 100000) := Lib.hid (by
            rw [take_moreR ho.out]
            intro z hz
            rcases List.mem_append.1 hz with hz | hz
            · exact hp.out z hz
            · obtain rfl := List.mem_singleton.1 hz
              exact ⟨by omega, by omega⟩)
          go_wp2_with fail
          exact ⟨⟨k + 1, by omega, by go_num, hb, BX, hp3⟩, by simp [intOf]; omega⟩
        · have hp3 : Hid (∀ g ∈ x.legs, 1 ≤ g ∧ g ≤ 100000) := Lib.hid (by have := hp.out; rwa [List.take_of_length_le (by omega)] at this)
          have hfin : Hid (v = true) := Lib.hid (hv.out.symm.trans (right_iff.2 ⟨⟨⟨hl2, hl9⟩, hlg.out⟩, ⟨⟨by omega, by omega⟩, ⟨by omega, by omega⟩⟩, hp2.out, hp3.out⟩))
          have i2 : ¬ (k : Int) < (x.offs.length : Int) - 1 := by have := hlg.out; omega
          go_wp2_with fail
          go_ret
          exact ⟨ret_bool hfin.out.symm, hb⟩
end Go.Proofs.YtmbopkcmbiommaaGreatDoor

/-
  The reference's timetable.Check; walked.
-/
namespace Go.Proofs.YtmbopkcmbiommaaGreatDoor
open Go Go.RowKit

/-- A slice of lines, whose offices have room as slices have. -/
def LinsC (w : World) (B : Nat) (A : Option Addr) (l : List Lin) : Prop :=
  ∃ ls : List LS, ls.length = l.length ∧ Rd w B 6 A l.length (linsCl ls l) ∧ ∀ (k : Nat) (y : Lin), l[k]? = some y → ∃ q, ls[k]? = some q ∧ LinAt w B q y ∧ y.offs.length ≤ q.c0
theorem LinsC.below {w w' : World} {B : Nat} {A : Option Addr} {l : List Lin} (h : LinsC w B A l) (b : Below B w w') : LinsC w' B A l := by
  obtain ⟨ls, l1, l2, l3⟩ := h
  exact ⟨ls, l1, l2.below b, fun k y hy => by obtain ⟨q, e, r, c⟩ := l3 k y hy; exact ⟨q, e, r.below b, c⟩⟩
set_option maxRecDepth 100000 in
set_option maxHeartbeats 8000000 in
theorem ra_table (n : Int) (A : Option Addr) (c : Nat) (l : List Lin) (W : World) (hA : LinsC W W.heap.size A l) (hn : l.length ≤ 1000000) (hs : ∀ x ∈ l, x.short) :
    Calls Tryz.prog 44 #[.agg #[.int .i64 n, .slice A l.length c]] W (Ret (.int .i64 (tableE n l)) W) := by
  obtain ⟨v, hv⟩ : ∃ v, Hid (tableE n l = v) := ⟨_, Lib.hid rfl⟩
  rw [hv.out]
  have BT := Blk.new W 24 #[.int .i64 n, .slice A l.length c] _ rfl
  have hb := bAl (bRefl W) (.cells #[.int .i64 n, .slice A l.length c] 24)
  go_enter Tryz.func44, Tryz.ntmps44
  go_upto_region 1 with fail
  generalize W.alloc (.cells #[.int .i64 n, .slice A l.length c] 24) = w1 at *
  have d0 := BT.cell 0
  have d1 := BT.cell 1
  by_cases l1 : 64 < l.length
  · have hv2 : Hid (v = 2) := Lib.hid (by rw [← hv.out]; unfold tableE; rw [if_pos l1])
    have e1 : (64 : Int) < (l.length : Int) := by omega
    clear l1
    go_wp2_with fail
    go_ret
    exact ⟨ret_int hv2.out.symm, hb⟩
  have e1 : ¬ (64 : Int) < (l.length : Int) := by omega
  have hno0 : Hid (¬ btw n 0 24 = true → v = 200) := Lib.hid (fun h => by rw [← hv.out]; unfold tableE; rw [if_neg l1, if_neg h])
  by_cases n0 : n < 0
  · have hv2 := Lib.hid (hno0.out (fun h => by unfold btw at h; simp at h; omega))
    clear l1
    go_wp2_with fail
    go_ret
    exact ⟨ret_int hv2.out.symm, hb⟩
  by_cases n24 : 24 < n
  · have hv2 := Lib.hid (hno0.out (fun h => by unfold btw at h; simp at h; omega))
    clear l1
    go_wp2_with fail
    go_ret
    exact ⟨ret_int hv2.out.symm, hb⟩
  have hbt : btw n 0 24 = true := by unfold btw; simp; omega
  have hno : Hid (∀ (k : Nat) x, l[k]? = some x → x.right n = false → v = 200) := Lib.hid (fun k r h hb => by rw [← hv.out]; exact table_no h hb (by omega) hbt)
  have hyes : Hid ((∀ x ∈ l, x.right n = true) → v = calsE l) := Lib.hid (fun h => by rw [← hv.out]; exact table_yes h (by omega) hbt)
  clear l1 hbt hno0
  go_wp2_with fail
  clear d0 d1 e1
  go_loopw [3] (fun i wr => ∃ k : Nat, k ≤ l.length ∧ i = .int .i64 k ∧ Below W.heap.size W wr ∧ Blk wr W.heap.size 24 #[.int .i64 n, .slice A l.length c] ∧ Hid (∀ x ∈ l.take k, x.right n = true)) (fun i _ => l.length - (intOf i).toNat)
  case atStart => exact ⟨0, Nat.zero_le _, rfl, hb, BT, Lib.hid (by simp)⟩
  case round =>
    clear hb BT
    obtain ⟨k, hkn, rfl, hb, BT, hp⟩ := hrel
    have d0 := BT.cell 0
    have d1 := BT.cell 1
    by_cases hlt : k < l.length
    · obtain ⟨x, hx⟩ : ∃ x, Hid (l[k]? = some x) := ⟨_, Lib.hid (List.getElem?_eq_getElem hlt)⟩
      have hsx := hs x (List.mem_of_getElem? hx.out)
      obtain ⟨ls, l1, l2, l3⟩ := hA.below hb
      obtain ⟨s, es, rs, cs⟩ := l3 k x hx.out
      have za : (ls.zip l)[k]? = some (s, x) := by rw [List.getElem?_zip_eq_some]; exact ⟨es, hx.out⟩
      have hbz := hb.size
      obtain ⟨b1, o1, rfl, l1', L1⟩ := el_load (f := fun p : LS × Lin => p.1.cl p.2) (fun _ _ => rfl) l2 hlt za Tryz.underlying56 rfl (by kernel_rfl) hbz
      dsimp only at L1
      have i0 : (0 : Int) ≤ (k : Int) := by omega
      have i1 : (k : Int) < (l.length : Int) := by omega
      have q : Hid (∀ w', Below wr.heap.size wr w' → Calls Tryz.prog 81 #[.agg (s.cl x).toArray, .int .i64 n] w' (Ret (.bool (x.right n)) w')) := Lib.hid (fun w' h => ra_right s x n w' ((rs.below (h.mono hbz)).more (Nat.le_trans hbz h.size)) cs hsx.1 hsx.2.1)
      have hp1 := Lib.hid (fun h => all_on (p := fun x : Lin => x.right n) hp.out hx.out h)
      have hp0 := Lib.hid (fun h => hno.out k x hx.out h)
      generalize (s.cl x).toArray = X at *
      generalize x.right n = ok at q hp1 hp0
      have KS : Hid (∀ w', Below wr.heap.size wr w' → (Instr.loadAt 56 (.pointer (some ⟨b1, o1 + k * 6, none⟩))).run Tryz.prog w' = .ok (.agg X) w' ∧ w'.cell? ⟨W.heap.size, 0, none⟩ = some (.int .i64 n) ∧ w'.cell? ⟨W.heap.size, 1, none⟩ = some (.slice (some ⟨b1, o1, none⟩) l.length c)) := Lib.hid (fun w' h => ⟨L1 w' h, (BT.below h BT.lt).cell 0, (BT.below h BT.lt).cell 1⟩)
      clear L1 l2 l3 es rs za
      go_upto_region 8 with fail
      refine wp_region_schB (f := 8) KS [(0, 1), (1, 2), (2, 1), (3, 1), (4, 2), (5, 1), (6, 2), (7, 0), (8, 3)] ?_
      simp only [pickS, List.getElem?_cons_zero, List.getElem?_cons_succ]
      refine wpSched_t ?_
      refine wpSched_r ?_
      refine wpSched_t ?_
      refine wpSched_t ?_
      refine wpSched_r (v := ?vq1) (hv := ?hq1) ?_; case hq1 => (intro w hSw; (first | refine (exec_load rfl rfl hSw).trans ?_ | refine (exec_load rfl rfl hSw.1).trans ?_ | refine (exec_load rfl rfl hSw.2.1).trans ?_ | refine (exec_load rfl rfl hSw.2.2.1).trans ?_ | refine (exec_load rfl rfl hSw.2).trans ?_ | refine (exec_load rfl rfl hSw.2.2).trans ?_); with_reducible rfl)
      refine wpSched_t ?_
      refine wpSched_r ?_
      refine wpSched_force (fun K hK => ?_)
      go_simp; (first | (go_at_call 81; (with_reducible refine (q.out _ (bDr (bRefl _))).mono ?_); rintro e w6 ⟨rfl, b6⟩; have B6 : Below wr.heap.size wr w6 := bCall (bDr (bRefl _)) b6) | skip)
      refine shut_go hK KS ?_
      clear hK K
      refine wpSched_last ?_
      first | simp only [List.map_nil] | simp only [List.map_cons, List.map_nil]
      have BT6 := BT.below B6 BT.lt
      have hb6 := hb.trans (B6.mono hbz)
      clear KS d0 d1 q b6
      cases ok
      · have hv2 := Lib.hid (hp0.out rfl)
        clear hp0 hp1
        go_wp2_with fail
        refine NoPanic.normal ?_
        go_wp2_with fail
        go_ret
        exact ⟨ret_int hv2.out.symm, hb6⟩
      · have hp2 := Lib.hid (hp1.out rfl)
        clear hp0 hp1
        go_wp2_with fail
        refine NoPanic.normal ?_
        go_wp2_with fail
        exact ⟨⟨k + 1, by omega, by go_num, hb6, BT6, hp2⟩, by simp [intOf]; omega⟩
    · have hv3 := Lib.hid (hyes.out (by have := hp.out; rwa [List.take_of_length_le (by omega)] at this))
      clear hp hyes hno
      go_wp2_with fail
      clear d0 d1
      go_loopw [4] (fun i wr => ∃ k : Nat, k ≤ l.length ∧ i = .int .i64 k ∧ Below W.heap.size W wr ∧ Blk wr W.heap.size 24 #[.int .i64 n, .slice A l.length c] ∧ Hid (calsE l = calsE (l.drop k))) (fun i _ => l.length - (intOf i).toNat)
      case atStart => exact ⟨0, Nat.zero_le _, rfl, hb, BT, Lib.hid rfl⟩
      case round =>
        clear hb BT
        obtain ⟨k, hkn, rfl, hb, BT, hp⟩ := hrel
        have d1 := BT.cell 1
        by_cases hlt : k < l.length
        · obtain ⟨x, hx⟩ : ∃ x, Hid (l[k]? = some x) := ⟨_, Lib.hid (List.getElem?_eq_getElem hlt)⟩
          have hsx := hs x (List.mem_of_getElem? hx.out)
          have hdrop : Hid (calsE l = if calE x.rules x.off = 0 then calsE (l.drop (k + 1)) else calE x.rules x.off) := Lib.hid (by
            rw [hp.out]
            obtain ⟨hk, e⟩ := List.getElem?_eq_some_iff.1 hx.out
            rw [List.drop_eq_getElem_cons hk, e]
            rfl)
          obtain ⟨ls, l1, l2, l3⟩ := hA.below hb
          obtain ⟨⟨p0, p1, p2, p3, m0, m1, m2, m3⟩, es, rs, cs⟩ := l3 k x hx.out
          have za : (ls.zip l)[k]? = some ((⟨p0, p1, p2, p3, m0, m1, m2, m3⟩ : LS), x) := by rw [List.getElem?_zip_eq_some]; exact ⟨es, hx.out⟩
          have hbz := hb.size
          obtain ⟨b1, o1, rfl, l1', hc⟩ := Cl_at (f := fun p : LS × Lin => p.1.cl p.2) (fun _ _ => rfl) l2 hlt za
          have c4 := hc 4 (by omega)
          have c5 := hc 5 (by omega)
          simp only [LS.cl, List.getElem?_cons_zero, List.getElem?_cons_succ] at c4 c5
          have i0 : (0 : Int) ≤ (k : Int) := by omega
          have i1 : (k : Int) < (l.length : Int) := by omega
          have q : Hid (∀ w', Below wr.heap.size wr w' → Calls Tryz.prog 82 #[.slice p2 x.rules.length m2, .slice p3 x.off.length m3] w' (Ret (.int .i64 (calE x.rules x.off)) w')) := Lib.hid (fun w' h => ra_cal p2 p3 m2 m3 x.rules x.off w' ((rs.r2.below (h.mono hbz)).more (Nat.le_trans hbz h.size)) ((rs.r3.below (h.mono hbz)).more (Nat.le_trans hbz h.size)) hsx.2.2.1 hsx.2.2.2)
          have KS : Hid (∀ w', Below wr.heap.size wr w' → w'.cell? ⟨W.heap.size, 1, none⟩ = some (.slice (some ⟨b1, o1, none⟩) l.length c) ∧ w'.cell? ⟨b1, o1 + k * 6 + 4, none⟩ = some (.slice p2 x.rules.length m2) ∧ w'.cell? ⟨b1, o1 + k * 6 + 5, none⟩ = some (.slice p3 x.off.length m3)) := Lib.hid (fun w' h => ⟨(BT.below h BT.lt).cell 1, (h.cell (p := ⟨b1, o1 + k * 6 + 4, none⟩) (by show b1 < _; omega)).trans c4, (h.cell (p := ⟨b1, o1 + k * 6 + 5, none⟩) (by show b1 < _; omega)).trans c5⟩)
          generalize calE x.rules x.off = E at *
          clear hc l2 l3 es rs za c4 c5
          go_upto_region 13 with fail
          refine wp_region_schB (f := 13) KS [(0, 1), (1, 2), (2, 1), (3, 1), (4, 1), (5, 2), (6, 1), (7, 2), (8, 1), (9, 1), (10, 1), (11, 2), (12, 0), (13, 3)] ?_
          simp only [pickS, List.getElem?_cons_zero, List.getElem?_cons_succ]
          refine wpSched_t ?_
          refine wpSched_r ?_
          refine wpSched_t ?_
          refine wpSched_t ?_
          refine wpSched_t ?_
          refine wpSched_r ?_
          refine wpSched_t ?_
          refine wpSched_r ?_
          refine wpSched_t ?_
          refine wpSched_t ?_
          refine wpSched_t ?_
          refine wpSched_r ?_
          refine wpSched_force (fun K hK => ?_)
          go_simp; (first | (go_at_call 82; (with_reducible refine (q.out _ (bDr (bRefl _))).mono ?_); rintro e w6 ⟨rfl, b6⟩; have B6 : Below wr.heap.size wr w6 := bCall (bDr (bRefl _)) b6) | skip)
          refine shut_go hK KS ?_
          clear hK K
          refine wpSched_last ?_
          first | simp only [List.map_nil] | simp only [List.map_cons, List.map_nil]
          have BT6 := BT.below B6 BT.lt
          have hb6 := hb.trans (B6.mono hbz)
          clear KS d1 q b6
          by_cases hE : E = 0
          · have hp2 := Lib.hid (hdrop.out.trans (if_pos hE))
            clear hdrop
            subst hE
            go_wp2_with fail
            refine NoPanic.normal ?_
            go_wp2_with fail
            exact ⟨⟨k + 1, by omega, by go_num, hb6, BT6, hp2⟩, by simp [intOf]; omega⟩
          · have hv2 : Hid (v = E) := Lib.hid (hv3.out.trans (hdrop.out.trans (if_neg hE)))
            have hEn : (E != 0) = true := by simpa using hE
            clear hdrop hE
            go_wp2_with fail
            refine NoPanic.normal ?_
            go_wp2_with fail
            go_ret
            exact ⟨ret_int hv2.out.symm, hb6⟩
        · have hfin : Hid (v = 0) := Lib.hid (by
            rw [hv3.out, hp.out, List.drop_of_length_le (by omega)]
            rfl)
          go_wp2_with fail
          go_ret
          exact ⟨ret_int hfin.out.symm, hb⟩
end Go.Proofs.YtmbopkcmbiommaaGreatDoor

/-
  The reference's tariff.Check; walked.
-/
namespace Go.Proofs.YtmbopkcmbiommaaGreatDoor
open Go Go.RowKit

theorem ra_price (n : Int) (W : World) : Calls Tryz.prog 83 #[.int .i64 n] W (Same (.bool (priceB n)) W) := by
  unfold priceB btw
  cases h1 : decide (0 ≤ n) <;> cases h2 : decide (n ≤ 1048576)
  all_goals
    go_enter Tryz.func83, Tryz.ntmps83
    go_wp2_with fail
    go_ret
    exact ⟨by simp_all, rfl⟩
theorem tariff_no {base leg : List Int} {tiers : List Tie} (h : ¬ ((((base.length = leg.length ∧ 1 ≤ base.length) ∧ base.length ≤ 8) ∧ tiers.length ≤ 16) ∧ ((∀ m ∈ base, priceB m = true) ∧ ((∀ m ∈ leg, priceB m = true) ∧ tiersB 0 tiers = true)))) : tariffE base leg tiers = 210 := by
  unfold tariffE
  refine if_neg (fun h2 => h ?_)
  simp only [Bool.and_eq_true, decide_eq_true_eq, List.all_eq_true] at h2
  obtain ⟨a1, a2, a3, a4, a5, a6, a7⟩ := h2
  exact ⟨⟨⟨⟨a1, a2⟩, a3⟩, a4⟩, a5, a6, a7⟩
theorem tariff_yes {base leg : List Int} {tiers : List Tie} (h : (((base.length = leg.length ∧ 1 ≤ base.length) ∧ base.length ≤ 8) ∧ tiers.length ≤ 16) ∧ ((∀ m ∈ base, priceB m = true) ∧ ((∀ m ∈ leg, priceB m = true) ∧ tiersB 0 tiers = true))) : tariffE base leg tiers = 0 := by
  obtain ⟨⟨⟨⟨a1, a2⟩, a3⟩, a4⟩, a5, a6, a7⟩ := h
  unfold tariffE
  refine if_pos ?_
  simp only [Bool.and_eq_true, decide_eq_true_eq, List.all_eq_true]
  exact ⟨a1, a2, a3, a4, a5, a6, a7⟩
theorem tiersB_cons {b : Int} {x : Tie} {l : List Tie} (h : b < x.from_) (hp : priceB x.extra = true) : tiersB b (x :: l) = tiersB x.from_ l := by
  show ((decide _ && _) && _) = _
  rw [decide_eq_true h, hp]
  rfl
theorem tiersB_bad {b : Int} {x : Tie} {l : List Tie} (h : ¬ b < x.from_ ∨ priceB x.extra = false) : tiersB b (x :: l) = false := by
  show ((decide _ && _) && _) = _
  rcases h with h | h
  · rw [decide_eq_false h]; rfl
  · rw [h, Bool.and_false]; rfl
/-- Where the tier ahead begins. -/
def prevF (l : List Tie) : Nat → Int
  | 0 => 0
  | k + 1 => match l[k]? with
    | some g => g.from_
    | none => 0
set_option maxRecDepth 100000 in
set_option maxHeartbeats 8000000 in
theorem ra_tariff (A0 A1 A2 : Option Addr) (c0 c1 c2 : Nat) (base leg : List Int) (tiers : List Tie) (W : World) (r0 : Rd W W.heap.size 1 A0 base.length (ints base)) (r1 : Rd W W.heap.size 1 A1 leg.length (ints leg)) (r2 : Rd W W.heap.size 2 A2 tiers.length (tiers.flatMap Tie.cl)) (hn0 : base.length ≤ 1000000) (hn2 : tiers.length ≤ 1000000) :
    Calls Tryz.prog 45 #[.agg #[.slice A0 base.length c0, .slice A1 leg.length c1, .slice A2 tiers.length c2]] W (Ret (.int .i64 (tariffE base leg tiers)) W) := by
  obtain ⟨v, hv⟩ : ∃ v, Hid (tariffE base leg tiers = v) := ⟨_, Lib.hid rfl⟩
  rw [hv.out]
  have hbad : Hid (¬ ((((base.length = leg.length ∧ 1 ≤ base.length) ∧ base.length ≤ 8) ∧ tiers.length ≤ 16) ∧ ((∀ m ∈ base, priceB m = true) ∧ ((∀ m ∈ leg, priceB m = true) ∧ tiersB 0 tiers = true))) → v = 210) := Lib.hid (fun h => hv.out.symm.trans (tariff_no h))
  have BT := Blk.new W 28 #[.slice A0 base.length c0, .slice A1 leg.length c1, .slice A2 tiers.length c2] _ rfl
  have hb := bAl (bRefl W) (.cells #[.slice A0 base.length c0, .slice A1 leg.length c1, .slice A2 tiers.length c2] 28)
  go_enter Tryz.func45, Tryz.ntmps45
  go_upto_region 1 with fail
  generalize W.alloc (.cells #[.slice A0 base.length c0, .slice A1 leg.length c1, .slice A2 tiers.length c2] 28) = w1 at *
  have d0 := BT.cell 0
  have d1 := BT.cell 1
  have d2 := BT.cell 2
  by_cases f0 : base.length ≠ leg.length
  · have hv2 := Lib.hid (hbad.out (fun h => by have := h.1; omega))
    have g0 : ((base.length : Int) != (leg.length : Int)) = true := by simp only [bne_iff_ne, ne_eq]; omega
    clear f0
    go_wp2_with fail
    go_ret
    exact ⟨ret_int hv2.out.symm, hb⟩
  have g0 : ((base.length : Int) != (leg.length : Int)) = false := by simp only [bne_eq_false_iff_eq]; omega
  replace f0 := Lib.hid f0
  by_cases f1 : base.length < 1
  · have hv2 := Lib.hid (hbad.out (fun h => by have := h.1; omega))
    have g1 : (base.length : Int) < 1 := by omega
    clear f1
    go_wp2_with fail
    go_ret
    exact ⟨ret_int hv2.out.symm, hb⟩
  have g1 : ¬ (base.length : Int) < 1 := by omega
  replace f1 := Lib.hid f1
  by_cases f2 : 8 < base.length
  · have hv2 := Lib.hid (hbad.out (fun h => by have := h.1; omega))
    have g2 : (8 : Int) < (base.length : Int) := by omega
    clear f2
    go_wp2_with fail
    go_ret
    exact ⟨ret_int hv2.out.symm, hb⟩
  have g2 : ¬ (8 : Int) < (base.length : Int) := by omega
  replace f2 := Lib.hid f2
  by_cases f3 : 16 < tiers.length
  · have hv2 := Lib.hid (hbad.out (fun h => by have := h.1; omega))
    have g3 : (16 : Int) < (tiers.length : Int) := by omega
    clear f3
    go_wp2_with fail
    go_ret
    exact ⟨ret_int hv2.out.symm, hb⟩
  have g3 : ¬ (16 : Int) < (tiers.length : Int) := by omega
  replace f3 := Lib.hid f3
  have hlen : Hid (base.length = leg.length) := Lib.hid (by have := f0.out; omega)
  go_wp2_with fail
  clear d0 d1 d2 g0 g1 g2 g3
  go_loopw [3] (fun i wr => ∃ k : Nat, k ≤ base.length ∧ i = .int .i64 k ∧ wr = w1 ∧ Hid ((∀ m ∈ base.take k, priceB m = true) ∧ ∀ m ∈ leg.take k, priceB m = true)) (fun i _ => base.length - (intOf i).toNat)
  case atStart => exact ⟨0, Nat.zero_le _, rfl, rfl, Lib.hid (by simp)⟩
  case round =>
    obtain ⟨k, hkn, rfl, rfl, hp⟩ := hrel
    have d0 := BT.cell 0
    have d1 := BT.cell 1
    by_cases hlt : k < base.length
    · obtain ⟨m, hm⟩ : ∃ y, Hid (base[k]? = some y) := ⟨_, Lib.hid (List.getElem?_eq_getElem hlt)⟩
      obtain ⟨n, hn⟩ : ∃ y, Hid (leg[k]? = some y) := ⟨_, Lib.hid (List.getElem?_eq_getElem (by have := hlen.out; omega))⟩
      obtain ⟨b1, o1, rfl, l1, hc1⟩ := (r0.below hb).2 (by omega)
      obtain ⟨b2, o2, rfl, l2, hc2⟩ := (r1.below hb).2 (by have := hlen.out; omega)
      have e0 := hc1 k _ (ints_at hm.out)
      have e1 := hc2 k _ (ints_at hn.out)
      have i0 : (0 : Int) ≤ (k : Int) := by omega
      have i1 : (k : Int) < (base.length : Int) := by omega
      have i2 : (k : Int) < (leg.length : Int) := by have := hlen.out; omega
      clear hc1 hc2
      have q1 := ra_price m wr
      have q2 := ra_price n wr
      cases hpm : priceB m with
      | false =>
        rw [hpm] at q1
        have hv2 := Lib.hid (hbad.out (fun h => by have := h.2.1 m (List.mem_of_getElem? hm.out); rw [hpm] at this; cases this))
        clear hpm
        go_wp2_with (go_at_call 83; (with_reducible refine q1.mono ?_); rintro e w6 ⟨rfl, rfl⟩)
        go_ret
        exact ⟨ret_int hv2.out.symm, hb⟩
      | true =>
        rw [hpm] at q1
        replace hpm := Lib.hid hpm
        cases hpn : priceB n with
        | false =>
          rw [hpn] at q2
          have hv2 := Lib.hid (hbad.out (fun h => by have := h.2.2.1 n (List.mem_of_getElem? hn.out); rw [hpn] at this; cases this))
          clear hpn
          go_wp2_with (first | (go_at_call 83; (with_reducible refine q1.mono ?_); rintro e w6 ⟨rfl, rfl⟩) | (go_at_call 83; (with_reducible refine q2.mono ?_); rintro e w7 ⟨rfl, rfl⟩))
          go_ret
          exact ⟨ret_int hv2.out.symm, hb⟩
        | true =>
          rw [hpn] at q2
          have hp2 : Hid ((∀ m ∈ base.take (k + 1), priceB m = true) ∧ ∀ m ∈ leg.take (k + 1), priceB m = true) := Lib.hid ⟨all_on (p := priceB) hp.out.1 hm.out hpm.out, all_on (p := priceB) hp.out.2 hn.out hpn⟩
          clear hpn
          go_wp2_with (first | (go_at_call 83; (with_reducible refine q1.mono ?_); rintro e w6 ⟨rfl, rfl⟩) | (go_at_call 83; (with_reducible refine q2.mono ?_); rintro e w7 ⟨rfl, rfl⟩))
          exact ⟨⟨k + 1, by omega, by go_num, trivial, hp2⟩, by simp [intOf]; omega⟩
    · have hp3 : Hid ((∀ m ∈ base, priceB m = true) ∧ ∀ m ∈ leg, priceB m = true) := Lib.hid (by have := hp.out; rwa [List.take_of_length_le (by omega), List.take_of_length_le (by have := hlen.out; omega)] at this)
      clear hp d1
      have d2 := BT.cell 2
      go_wp2_with fail
      clear d0 d2
      go_loopw [4] (fun i wr => ∃ k : Nat, k ≤ tiers.length ∧ i = .int .i64 k ∧ Below W.heap.size W wr ∧ Blk wr W.heap.size 28 #[.slice A0 base.length c0, .slice A1 leg.length c1, .slice A2 tiers.length c2] ∧ Hid (tiersB 0 tiers = tiersB (prevF tiers k) (tiers.drop k) ∧ 0 ≤ prevF tiers k)) (fun i _ => tiers.length - (intOf i).toNat)
      case atStart => exact ⟨0, Nat.zero_le _, rfl, hb, BT, Lib.hid ⟨rfl, by show (0 : Int) ≤ 0; omega⟩⟩
      case round =>
        clear hb BT
        obtain ⟨k, hkn, rfl, hb, BT, hp⟩ := hrel
        have d2 := BT.cell 2
        by_cases hlt : k < tiers.length
        · obtain ⟨x, hx⟩ : ∃ y, Hid (tiers[k]? = some y) := ⟨_, Lib.hid (List.getElem?_eq_getElem hlt)⟩
          have hdrop : Hid (tiers.drop k = x :: tiers.drop (k + 1)) := Lib.hid (by
            obtain ⟨hk, e⟩ := List.getElem?_eq_some_iff.1 hx.out
            rw [List.drop_eq_getElem_cons hk, e])
          have hnext : Hid (prevF tiers (k + 1) = x.from_) := Lib.hid (by show (match tiers[k]? with | some g => g.from_ | none => 0) = _; rw [hx.out])
          obtain ⟨b1, o1, rfl, l1, hc⟩ := Cl_at (f := Tie.cl) (fun _ _ => rfl) (r2.below hb) hlt hx.out
          have e0 := hc 0 (by omega)
          have e1 := hc 1 (by omega)
          simp only [Tie.cl, List.getElem?_cons_zero, List.getElem?_cons_succ, Nat.add_zero] at e0 e1
          clear hc
          have i0 : (0 : Int) ≤ (k : Int) := by omega
          have i1 : (k : Int) < (tiers.length : Int) := by omega
          have hbz := hb.size
          have hbad2 : Hid (¬ prevF tiers k < x.from_ ∨ priceB x.extra = false → v = 210) := Lib.hid (fun h => hbad.out (fun h9 => by
            have h8 := h9.2.2.2
            rw [hp.out.1, hdrop.out, tiersB_bad h] at h8
            cases h8))
          have hgood2 : Hid (prevF tiers k < x.from_ → priceB x.extra = true → tiersB 0 tiers = tiersB (prevF tiers (k + 1)) (tiers.drop (k + 1)) ∧ 0 ≤ prevF tiers (k + 1)) := Lib.hid (fun h h2 => ⟨by rw [hp.out.1, hdrop.out, tiersB_cons h h2, hnext.out], by rw [hnext.out]; have := hp.out.2; omega⟩)
          have hm1 := hp.out.2
          have qp := ra_price x.extra
          have KS : Hid (∀ w', Below wr.heap.size wr w' → w'.cell? ⟨W.heap.size, 2, none⟩ = some (.slice (some ⟨b1, o1, none⟩) tiers.length c2) ∧ w'.cell? ⟨b1, o1 + k * 2, none⟩ = some (.int .i64 x.from_) ∧ w'.cell? ⟨b1, o1 + k * 2 + 1, none⟩ = some (.int .i64 x.extra)) := Lib.hid (fun w' h => ⟨(BT.below h BT.lt).cell 2, (h.cell (p := ⟨b1, o1 + k * 2, none⟩) (by show b1 < _; omega)).trans e0, (h.cell (p := ⟨b1, o1 + k * 2 + 1, none⟩) (by show b1 < _; omega)).trans e1⟩)
          clear e0 e1
          by_cases f9 : x.from_ < 1
          · have hv2 := Lib.hid (hbad2.out (.inl (by omega)))
            go_upto_region 11 with fail
            refine wp_region_schN (g := 0) KS [(0, 1), (1, 2), (2, 1), (3, 1), (4, 1), (5, 2), (6, 1), (7, 1), (8, 1), (9, 1), (10, 1), (11, 1), (12, 1), (13, 1), (14, 1), (15, 1), (16, 1), (17, 1), (18, 1), (19, 1), (20, 1), (21, 1), (22, 1), (23, 1), (24, 1), (25, 1), (26, 1), (27, 1), (28, 1), (29, 1), (30, 1), (31, 1), (32, 1), (33, 1), (34, 0), (35, 1), (36, 1)] ?_
            simp only [pickS, List.getElem?_cons_zero, List.getElem?_cons_succ]
            refine wpSchedN_t ?_
            refine wpSchedN_r ?_
            refine wpSchedN_t ?_
            refine wpSchedN_t ?_
            refine wpSchedN_t ?_
            refine wpSchedN_r ?_
            refine wpSchedN_t ?_
            refine wpSchedN_t ?_
            refine wpSchedN_p ?_
            refine wpSchedN_p ?_
            refine wpSchedN_p ?_
            refine wpSchedN_p ?_
            refine wpSchedN_p ?_
            refine wpSchedN_p ?_
            refine wpSchedN_p ?_
            refine wpSchedN_p ?_
            refine wpSchedN_p ?_
            refine wpSchedN_p ?_
            refine wpSchedN_p ?_
            refine wpSchedN_p ?_
            refine wpSchedN_p ?_
            refine wpSchedN_p ?_
            refine wpSchedN_p ?_
            refine wpSchedN_p ?_
            refine wpSchedN_p ?_
            refine wpSchedN_p ?_
            refine wpSchedN_t ?_
            refine wpSchedN_t ?_
            refine wpSchedN_p ?_
            refine wpSchedN_p ?_
            refine wpSchedN_p ?_
            refine wpSchedN_p ?_
            refine wpSchedN_p ?_
            refine wpSchedN_p ?_
            refine wpSchedN_force (fun K hK => ?_)
            go_simp
            refine shut_go hK KS ?_
            clear hK K
            refine wpSchedN_p ?_
            refine wpSchedN_t ?_
            refine anyN_end ?_
            refine NoPanic.normal ?_
            go_wp2_with fail
            go_ret
            exact ⟨ret_int hv2.out.symm, bDr hb⟩
          obtain _ | k' := k
          · have hP0 : prevF tiers 0 = 0 := rfl
            have KS0 : Hid (∀ w', Below wr.heap.size wr w' → w'.cell? ⟨W.heap.size, 2, none⟩ = some (.slice (some ⟨b1, o1, none⟩) tiers.length c2) ∧ w'.cell? ⟨b1, o1, none⟩ = some (.int .i64 x.from_) ∧ w'.cell? ⟨b1, o1 + 1, none⟩ = some (.int .i64 x.extra)) := Lib.hid (fun w' h => by have := KS.out w' h; simpa only [Nat.zero_mul, Nat.add_zero] using this)
            have i6 : (0 : Int) < (tiers.length : Int) := by omega
            clear KS
            cases hpe : priceB x.extra with
            | false =>
              rw [hpe] at qp
              have hv2 := Lib.hid (hbad2.out (.inr hpe))
              clear hpe hbad2 hgood2
              go_upto_region 11 with fail
              refine wp_region_schN (g := 0) KS0 [(0, 1), (1, 2), (2, 1), (3, 1), (4, 1), (5, 2), (6, 1), (7, 1), (8, 1), (9, 1), (10, 1), (11, 1), (12, 1), (13, 1), (14, 1), (15, 1), (16, 1), (17, 1), (18, 1), (19, 1), (20, 1), (21, 1), (22, 1), (23, 1), (24, 1), (25, 1), (26, 1), (27, 1), (28, 1), (29, 2), (30, 1), (31, 1), (32, 1), (33, 2), (34, 0), (35, 1), (36, 1)] ?_
              simp only [pickS, List.getElem?_cons_zero, List.getElem?_cons_succ]
              refine wpSchedN_t ?_
              refine wpSchedN_r ?_
              refine wpSchedN_t ?_
              refine wpSchedN_t ?_
              refine wpSchedN_t ?_
              refine wpSchedN_r ?_
              refine wpSchedN_t ?_
              refine wpSchedN_t ?_
              refine wpSchedN_t ?_
              refine wpSchedN_t ?_
              refine wpSchedN_t ?_
              refine wpSchedN_p ?_
              refine wpSchedN_p ?_
              refine wpSchedN_p ?_
              refine wpSchedN_p ?_
              refine wpSchedN_p ?_
              refine wpSchedN_p ?_
              refine wpSchedN_p ?_
              refine wpSchedN_p ?_
              refine wpSchedN_p ?_
              refine wpSchedN_p ?_
              refine wpSchedN_p ?_
              refine wpSchedN_p ?_
              refine wpSchedN_p ?_
              refine wpSchedN_p ?_
              refine wpSchedN_t ?_
              refine wpSchedN_t ?_
              refine wpSchedN_t ?_
              refine wpSchedN_t ?_
              refine wpSchedN_r ?_
              refine wpSchedN_t ?_
              refine wpSchedN_t ?_
              refine wpSchedN_t ?_
              refine wpSchedN_r ?_
              refine wpSchedN_force (fun K hK => ?_)
              go_simp; (first | (go_at_call 83; (with_reducible refine (qp _).mono ?_); rintro e w6 ⟨rfl, rfl⟩) | skip)
              refine shut_go hK KS0 ?_
              clear hK K
              refine wpSchedN_t ?_
              refine wpSchedN_t ?_
              refine anyN_end ?_
              refine NoPanic.normal ?_
              go_wp2_with fail
              go_ret
              exact ⟨ret_int hv2.out.symm, bDr hb⟩
            | true =>
              rw [hpe] at qp
              have hnx := Lib.hid (hgood2.out (by rw [hP0]; omega) hpe)
              clear hpe hbad2 hgood2
              go_upto_region 11 with fail
              refine wp_region_schN (g := 0) KS0 [(0, 1), (1, 2), (2, 1), (3, 1), (4, 1), (5, 2), (6, 1), (7, 1), (8, 1), (9, 1), (10, 1), (11, 1), (12, 1), (13, 1), (14, 1), (15, 1), (16, 1), (17, 1), (18, 1), (19, 1), (20, 1), (21, 1), (22, 1), (23, 1), (24, 1), (25, 1), (26, 1), (27, 1), (28, 1), (29, 2), (30, 1), (31, 1), (32, 1), (33, 2), (34, 0), (35, 1), (36, 1)] ?_
              simp only [pickS, List.getElem?_cons_zero, List.getElem?_cons_succ]
              refine wpSchedN_t ?_
              refine wpSchedN_r ?_
              refine wpSchedN_t ?_
              refine wpSchedN_t ?_
              refine wpSchedN_t ?_
              refine wpSchedN_r ?_
              refine wpSchedN_t ?_
              refine wpSchedN_t ?_
              refine wpSchedN_t ?_
              refine wpSchedN_t ?_
              refine wpSchedN_t ?_
              refine wpSchedN_p ?_
              refine wpSchedN_p ?_
              refine wpSchedN_p ?_
              refine wpSchedN_p ?_
              refine wpSchedN_p ?_
              refine wpSchedN_p ?_
              refine wpSchedN_p ?_
              refine wpSchedN_p ?_
              refine wpSchedN_p ?_
              refine wpSchedN_p ?_
              refine wpSchedN_p ?_
              refine wpSchedN_p ?_
              refine wpSchedN_p ?_
              refine wpSchedN_p ?_
              refine wpSchedN_t ?_
              refine wpSchedN_t ?_
              refine wpSchedN_t ?_
              refine wpSchedN_t ?_
              refine wpSchedN_r ?_
              refine wpSchedN_t ?_
              refine wpSchedN_t ?_
              refine wpSchedN_t ?_
              refine wpSchedN_r ?_
              refine wpSchedN_force (fun K hK => ?_)
              go_simp; (first | (go_at_call 83; (with_reducible refine (qp _).mono ?_); rintro e w6 ⟨rfl, rfl⟩) | skip)
              refine shut_go hK KS0 ?_
              clear hK K
              refine wpSchedN_t ?_
              refine wpSchedN_t ?_
              refine anyN_end ?_
              refine NoPanic.normal ?_
              go_wp2_with fail
              exact ⟨⟨0 + 1, by omega, by go_num, bDr hb, BT, Lib.hid hnx.out⟩, by simp [intOf]; omega⟩
          · obtain ⟨z, hz⟩ : ∃ y, Hid (tiers[k']? = some y) := ⟨_, Lib.hid (List.getElem?_eq_getElem (by omega))⟩
            have hPz : prevF tiers (k' + 1) = z.from_ := by show (match tiers[k']? with | some g => g.from_ | none => 0) = _; rw [hz.out]
            rw [hPz] at hbad2 hgood2
            obtain ⟨b3, o3, e3, l3, hc3⟩ := Cl_at (f := Tie.cl) (fun _ _ => rfl) (r2.below hb) (show k' < tiers.length by omega) hz.out
            injection e3 with e3
            injection e3 with e3 e4
            subst e3
            subst e4
            have c3 := hc3 0 (by omega)
            simp only [Tie.cl, List.getElem?_cons_zero, Nat.add_zero] at c3
            have i2 : (0 : Int) ≤ (k' : Int) := by omega
            have i3 : (k' : Int) < (tiers.length : Int) := by omega
            have i5 : (0 : Int) ≤ (k' : Int) + 1 := by omega
            have i6 : (k' : Int) + 1 < (tiers.length : Int) := by omega
            have i4 : IntKind.i64.wrap (k' : Int) = (k' : Int) := by rw [IntKind.wrap_i64]; omega
            have KT : Hid (∀ w', Below wr.heap.size wr w' → w'.cell? ⟨W.heap.size, 2, none⟩ = some (.slice (some ⟨b1, o1, none⟩) tiers.length c2) ∧ w'.cell? ⟨b1, o1 + (k' + 1) * 2, none⟩ = some (.int .i64 x.from_) ∧ w'.cell? ⟨b1, o1 + (k' + 1) * 2 + 1, none⟩ = some (.int .i64 x.extra) ∧ w'.cell? ⟨b1, o1 + k' * 2, none⟩ = some (.int .i64 z.from_)) := Lib.hid (fun w' h => ⟨(KS.out w' h).1, (KS.out w' h).2.1, (KS.out w' h).2.2, (h.cell (p := ⟨b1, o1 + k' * 2, none⟩) (by show b1 < _; omega)).trans c3⟩)
            clear hc3 c3
            by_cases f10 : x.from_ ≤ z.from_
            · have hv2 := Lib.hid (hbad2.out (.inl (by omega)))
              clear hbad2 hgood2 hPz hm1
              go_upto_region 11 with fail
              refine wp_region_schN (g := 0) KT [(0, 1), (1, 2), (2, 1), (3, 1), (4, 1), (5, 2), (6, 1), (7, 1), (8, 1), (9, 1), (10, 1), (11, 1), (12, 2), (13, 1), (14, 1), (15, 1), (16, 2), (17, 1), (18, 2), (19, 1), (20, 1), (21, 1), (22, 1), (23, 2), (24, 1), (25, 1), (26, 1), (27, 1), (28, 1), (29, 1), (30, 1), (31, 1), (32, 1), (33, 1), (34, 0), (35, 1), (36, 1)] ?_
              simp only [pickS, List.getElem?_cons_zero, List.getElem?_cons_succ]
              refine wpSchedN_t ?_
              refine wpSchedN_r ?_
              refine wpSchedN_t ?_
              refine wpSchedN_t ?_
              refine wpSchedN_t ?_
              refine wpSchedN_r ?_
              refine wpSchedN_t ?_
              refine wpSchedN_t ?_
              refine wpSchedN_t ?_
              refine wpSchedN_t ?_
              refine wpSchedN_t ?_
              refine wpSchedN_t ?_
              refine wpSchedN_r ?_
              refine wpSchedN_t ?_
              refine wpSchedN_t ?_
              refine wpSchedN_t ?_
              refine wpSchedN_r ?_
              refine wpSchedN_t ?_
              refine wpSchedN_r ?_
              refine wpSchedN_t ?_
              refine wpSchedN_t ?_
              refine wpSchedN_t ?_
              refine wpSchedN_t ?_
              refine wpSchedN_r ?_
              refine wpSchedN_t ?_
              refine wpSchedN_t ?_
              refine wpSchedN_t ?_
              refine wpSchedN_t ?_
              refine wpSchedN_p ?_
              refine wpSchedN_p ?_
              refine wpSchedN_p ?_
              refine wpSchedN_p ?_
              refine wpSchedN_p ?_
              refine wpSchedN_p ?_
              refine wpSchedN_force (fun K hK => ?_)
              go_simp
              refine shut_go hK KT ?_
              clear hK K
              refine wpSchedN_p ?_
              refine wpSchedN_t ?_
              refine anyN_end ?_
              refine NoPanic.normal ?_
              go_wp2_with fail
              go_ret
              exact ⟨ret_int hv2.out.symm, bDr hb⟩
            cases hpe : priceB x.extra with
            | false =>
              rw [hpe] at qp
              have hv2 := Lib.hid (hbad2.out (.inr hpe))
              clear hpe hbad2 hgood2 hPz hm1
              go_upto_region 11 with fail
              refine wp_region_schN (g := 0) KT [(0, 1), (1, 2), (2, 1), (3, 1), (4, 1), (5, 2), (6, 1), (7, 1), (8, 1), (9, 1), (10, 1), (11, 1), (12, 2), (13, 1), (14, 1), (15, 1), (16, 2), (17, 1), (18, 2), (19, 1), (20, 1), (21, 1), (22, 1), (23, 2), (24, 1), (25, 1), (26, 1), (27, 1), (28, 1), (29, 2), (30, 1), (31, 1), (32, 1), (33, 2), (34, 0), (35, 1), (36, 1)] ?_
              simp only [pickS, List.getElem?_cons_zero, List.getElem?_cons_succ]
              refine wpSchedN_t ?_
              refine wpSchedN_r ?_
              refine wpSchedN_t ?_
              refine wpSchedN_t ?_
              refine wpSchedN_t ?_
              refine wpSchedN_r ?_
              refine wpSchedN_t ?_
              refine wpSchedN_t ?_
              refine wpSchedN_t ?_
              refine wpSchedN_t ?_
              refine wpSchedN_t ?_
              refine wpSchedN_t ?_
              refine wpSchedN_r ?_
              refine wpSchedN_t ?_
              refine wpSchedN_t ?_
              refine wpSchedN_t ?_
              refine wpSchedN_r ?_
              refine wpSchedN_t ?_
              refine wpSchedN_r ?_
              refine wpSchedN_t ?_
              refine wpSchedN_t ?_
              refine wpSchedN_t ?_
              refine wpSchedN_t ?_
              refine wpSchedN_r ?_
              refine wpSchedN_t ?_
              refine wpSchedN_t ?_
              refine wpSchedN_t ?_
              refine wpSchedN_t ?_
              refine wpSchedN_t ?_
              refine wpSchedN_r ?_
              refine wpSchedN_t ?_
              refine wpSchedN_t ?_
              refine wpSchedN_t ?_
              refine wpSchedN_r ?_
              refine wpSchedN_force (fun K hK => ?_)
              go_simp; (first | (go_at_call 83; (with_reducible refine (qp _).mono ?_); rintro e w6 ⟨rfl, rfl⟩) | skip)
              refine shut_go hK KT ?_
              clear hK K
              refine wpSchedN_t ?_
              refine wpSchedN_t ?_
              refine anyN_end ?_
              refine NoPanic.normal ?_
              go_wp2_with fail
              go_ret
              exact ⟨ret_int hv2.out.symm, bDr hb⟩
            | true =>
              rw [hpe] at qp
              have hnx := Lib.hid (hgood2.out (by omega) hpe)
              clear hpe hbad2 hgood2 hPz hm1
              go_upto_region 11 with fail
              refine wp_region_schN (g := 0) KT [(0, 1), (1, 2), (2, 1), (3, 1), (4, 1), (5, 2), (6, 1), (7, 1), (8, 1), (9, 1), (10, 1), (11, 1), (12, 2), (13, 1), (14, 1), (15, 1), (16, 2), (17, 1), (18, 2), (19, 1), (20, 1), (21, 1), (22, 1), (23, 2), (24, 1), (25, 1), (26, 1), (27, 1), (28, 1), (29, 2), (30, 1), (31, 1), (32, 1), (33, 2), (34, 0), (35, 1), (36, 1)] ?_
              simp only [pickS, List.getElem?_cons_zero, List.getElem?_cons_succ]
              refine wpSchedN_t ?_
              refine wpSchedN_r ?_
              refine wpSchedN_t ?_
              refine wpSchedN_t ?_
              refine wpSchedN_t ?_
              refine wpSchedN_r ?_
              refine wpSchedN_t ?_
              refine wpSchedN_t ?_
              refine wpSchedN_t ?_
              refine wpSchedN_t ?_
              refine wpSchedN_t ?_
              refine wpSchedN_t ?_
              refine wpSchedN_r ?_
              refine wpSchedN_t ?_
              refine wpSchedN_t ?_
              refine wpSchedN_t ?_
              refine wpSchedN_r ?_
              refine wpSchedN_t ?_
              refine wpSchedN_r ?_
              refine wpSchedN_t ?_
              refine wpSchedN_t ?_
              refine wpSchedN_t ?_
              refine wpSchedN_t ?_
              refine wpSchedN_r ?_
              refine wpSchedN_t ?_
              refine wpSchedN_t ?_
              refine wpSchedN_t ?_
              refine wpSchedN_t ?_
              refine wpSchedN_t ?_
              refine wpSchedN_r ?_
              refine wpSchedN_t ?_
              refine wpSchedN_t ?_
              refine wpSchedN_t ?_
              refine wpSchedN_r ?_
              refine wpSchedN_force (fun K hK => ?_)
              go_simp; (first | (go_at_call 83; (with_reducible refine (qp _).mono ?_); rintro e w6 ⟨rfl, rfl⟩) | skip)
              refine shut_go hK KT ?_
              clear hK K
              refine wpSchedN_t ?_
              refine wpSchedN_t ?_
              refine anyN_end ?_
              refine NoPanic.normal ?_
              go_wp2_with fail
              exact ⟨⟨k' + 1 + 1, by omega, by go_num, bDr hb, BT, Lib.hid hnx.out⟩, by simp [intOf]; omega⟩
        · have hfin : Hid (v = 0) := Lib.hid (hv.out.symm.trans (tariff_yes ⟨⟨⟨⟨hlen.out, by have := f1.out; omega⟩, by have := f2.out; omega⟩, by have := f3.out; omega⟩, hp3.out.1, hp3.out.2, by rw [hp.out.1, List.drop_of_length_le (by omega)]; rfl⟩))
          go_wp2_with fail
          go_ret
          exact ⟨ret_int hfin.out.symm, hb⟩
end Go.Proofs.YtmbopkcmbiommaaGreatDoor

/-
  The reference's orders.Right; walked.
-/
namespace Go.Proofs.YtmbopkcmbiommaaGreatDoor
open Go Go.RowKit

theorem oright_iff {o : Odr} {n people classes : Int} : o.right n people classes = true ↔ (¬ o.from_ < 0 ∧ ¬ n ≤ o.from_ ∧ ¬ o.dest < 0 ∧ ¬ n ≤ o.dest ∧ ¬ o.from_ = o.dest ∧ ¬ o.person < 0 ∧ ¬ people ≤ o.person ∧ ¬ o.cls < 0 ∧ ¬ classes ≤ o.cls ∧ ¬ o.after < 0 ∧ ¬ o.by_ ≤ o.after ∧ ¬ 2097152 ≤ o.by_ ∧ ¬ o.crowd < 1 ∧ ¬ 64 < o.crowd ∧ ¬ o.pay < 0 ∧ ¬ 1099511627776 < o.pay) ∧ ((o.els = 0 ∨ o.els = 1 ∨ o.els = 2) ∧ agB n (-1) o.ag = true) := by
  unfold Odr.right blw
  simp only [Bool.and_eq_true, decide_eq_true_eq]
  constructor
  · rintro ⟨h1, h2, h3, h4, h5, h6, h7, h8, h9, h10, h11⟩
    refine ⟨?_, by omega, h11⟩
    omega
  · rintro ⟨h, h2, h3⟩
    refine ⟨by omega, by omega, by omega, by omega, by omega, by omega, by omega, by omega, by omega, by omega, h3⟩
theorem oright_not {o : Odr} {n people classes : Int} (h : ¬ ((¬ o.from_ < 0 ∧ ¬ n ≤ o.from_ ∧ ¬ o.dest < 0 ∧ ¬ n ≤ o.dest ∧ ¬ o.from_ = o.dest ∧ ¬ o.person < 0 ∧ ¬ people ≤ o.person ∧ ¬ o.cls < 0 ∧ ¬ classes ≤ o.cls ∧ ¬ o.after < 0 ∧ ¬ o.by_ ≤ o.after ∧ ¬ 2097152 ≤ o.by_ ∧ ¬ o.crowd < 1 ∧ ¬ 64 < o.crowd ∧ ¬ o.pay < 0 ∧ ¬ 1099511627776 < o.pay) ∧ ((o.els = 0 ∨ o.els = 1 ∨ o.els = 2) ∧ agB n (-1) o.ag = true))) : o.right n people classes = false := by
  rw [← Bool.not_eq_true]
  exact fun h2 => h (oright_iff.1 h2)
theorem agB_cons {n b a : Int} {l : List Int} (h : b < a) (hp : a < n) : agB n b (a :: l) = agB n a l := by
  show ((decide _ && decide _) && _) = _
  rw [decide_eq_true h, decide_eq_true hp]
  rfl
theorem agB_bad {n b a : Int} {l : List Int} (h : ¬ b < a ∨ ¬ a < n) : agB n b (a :: l) = false := by
  show ((decide _ && decide _) && _) = _
  rcases h with h | h
  · rw [decide_eq_false h]; rfl
  · rw [decide_eq_false h, Bool.and_false]; rfl
/-- What stands ahead. -/
def prevA (l : List Int) : Nat → Int
  | 0 => -1
  | k + 1 => match l[k]? with
    | some g => g
    | none => 0
set_option maxRecDepth 100000 in
set_option maxHeartbeats 8000000 in
theorem ra_odr (o : Odr) (A : Option Addr) (c : Nat) (n people classes : Int) (W : World) (r : Rd W W.heap.size 1 A o.ag.length (ints o.ag)) (hn : o.ag.length ≤ 1000000) :
    Calls Tryz.prog 46 #[.agg (o.cl (.slice A o.ag.length c)).toArray, .int .i64 n, .int .i64 people, .int .i64 classes] W (Ret (.bool (o.right n people classes)) W) := by
  obtain ⟨v, hv⟩ : ∃ v, Hid (o.right n people classes = v) := ⟨_, Lib.hid rfl⟩
  rw [hv.out]
  have hbad : Hid (¬ ((¬ o.from_ < 0 ∧ ¬ n ≤ o.from_ ∧ ¬ o.dest < 0 ∧ ¬ n ≤ o.dest ∧ ¬ o.from_ = o.dest ∧ ¬ o.person < 0 ∧ ¬ people ≤ o.person ∧ ¬ o.cls < 0 ∧ ¬ classes ≤ o.cls ∧ ¬ o.after < 0 ∧ ¬ o.by_ ≤ o.after ∧ ¬ 2097152 ≤ o.by_ ∧ ¬ o.crowd < 1 ∧ ¬ 64 < o.crowd ∧ ¬ o.pay < 0 ∧ ¬ 1099511627776 < o.pay) ∧ ((o.els = 0 ∨ o.els = 1 ∨ o.els = 2) ∧ agB n (-1) o.ag = true)) → v = false) := Lib.hid (fun h => hv.out.symm.trans (oright_not h))
  have BT := Blk.new W 65 (o.cl (.slice A o.ag.length c)).toArray _ rfl
  have hb := bAl (bRefl W) (.cells (o.cl (.slice A o.ag.length c)).toArray 65)
  go_enter Tryz.func46, Tryz.ntmps46
  go_upto_region 1 with fail
  generalize W.alloc (.cells (o.cl (.slice A o.ag.length c)).toArray 65) = w1 at *
  have d0 : w1.cell? ⟨W.heap.size, 0, none⟩ = some (.int .i64 o.from_) := BT.cell 0
  have d1 : w1.cell? ⟨W.heap.size, 1, none⟩ = some (.int .i64 o.person) := BT.cell 1
  have d2 : w1.cell? ⟨W.heap.size, 2, none⟩ = some (.int .i64 o.dest) := BT.cell 2
  have d3 : w1.cell? ⟨W.heap.size, 3, none⟩ = some (.int .i64 o.cls) := BT.cell 3
  have d4 : w1.cell? ⟨W.heap.size, 4, none⟩ = some (.int .i64 o.after) := BT.cell 4
  have d5 : w1.cell? ⟨W.heap.size, 5, none⟩ = some (.int .i64 o.by_) := BT.cell 5
  have d6 : w1.cell? ⟨W.heap.size, 6, none⟩ = some (.int .i64 o.crowd) := BT.cell 6
  have d7 : w1.cell? ⟨W.heap.size, 7, none⟩ = some (.int .i64 o.pay) := BT.cell 7
  by_cases f0 : o.from_ < 0
  · have hv2 := Lib.hid (hbad.out (fun h => by have := h.1; omega))
    go_wp2_with fail
    go_ret
    exact ⟨ret_bool hv2.out.symm, hb⟩
  by_cases f1 : n ≤ o.from_
  · have hv2 := Lib.hid (hbad.out (fun h => by have := h.1; omega))
    go_wp2_with fail
    go_ret
    exact ⟨ret_bool hv2.out.symm, hb⟩
  by_cases f2 : o.dest < 0
  · have hv2 := Lib.hid (hbad.out (fun h => by have := h.1; omega))
    go_wp2_with fail
    go_ret
    exact ⟨ret_bool hv2.out.symm, hb⟩
  by_cases f3 : n ≤ o.dest
  · have hv2 := Lib.hid (hbad.out (fun h => by have := h.1; omega))
    go_wp2_with fail
    go_ret
    exact ⟨ret_bool hv2.out.symm, hb⟩
  by_cases f4 : o.from_ = o.dest
  · have hv2 := Lib.hid (hbad.out (fun h => by have := h.1; omega))
    have g4 : (o.from_ == o.dest) = true := by simp only [beq_iff_eq]; exact f4
    clear f4
    go_wp2_with fail
    go_ret
    exact ⟨ret_bool hv2.out.symm, hb⟩
  have g4 : (o.from_ == o.dest) = false := by simp only [beq_eq_false_iff_ne]; exact f4
  replace f4 := Lib.hid f4
  by_cases f5 : o.person < 0
  · have hv2 := Lib.hid (hbad.out (fun h => by have := h.1; omega))
    go_wp2_with fail
    go_ret
    exact ⟨ret_bool hv2.out.symm, hb⟩
  by_cases f6 : people ≤ o.person
  · have hv2 := Lib.hid (hbad.out (fun h => by have := h.1; omega))
    go_wp2_with fail
    go_ret
    exact ⟨ret_bool hv2.out.symm, hb⟩
  by_cases f7 : o.cls < 0
  · have hv2 := Lib.hid (hbad.out (fun h => by have := h.1; omega))
    go_wp2_with fail
    go_ret
    exact ⟨ret_bool hv2.out.symm, hb⟩
  by_cases f8 : classes ≤ o.cls
  · have hv2 := Lib.hid (hbad.out (fun h => by have := h.1; omega))
    go_wp2_with fail
    go_ret
    exact ⟨ret_bool hv2.out.symm, hb⟩
  by_cases f9 : o.after < 0
  · have hv2 := Lib.hid (hbad.out (fun h => by have := h.1; omega))
    go_wp2_with fail
    go_ret
    exact ⟨ret_bool hv2.out.symm, hb⟩
  by_cases f10 : o.by_ ≤ o.after
  · have hv2 := Lib.hid (hbad.out (fun h => by have := h.1; omega))
    go_wp2_with fail
    go_ret
    exact ⟨ret_bool hv2.out.symm, hb⟩
  by_cases f11 : 2097152 ≤ o.by_
  · have hv2 := Lib.hid (hbad.out (fun h => by have := h.1; omega))
    go_wp2_with fail
    go_ret
    exact ⟨ret_bool hv2.out.symm, hb⟩
  by_cases f12 : o.crowd < 1
  · have hv2 := Lib.hid (hbad.out (fun h => by have := h.1; omega))
    go_wp2_with fail
    go_ret
    exact ⟨ret_bool hv2.out.symm, hb⟩
  by_cases f13 : 64 < o.crowd
  · have hv2 := Lib.hid (hbad.out (fun h => by have := h.1; omega))
    go_wp2_with fail
    go_ret
    exact ⟨ret_bool hv2.out.symm, hb⟩
  by_cases f14 : o.pay < 0
  · have hv2 := Lib.hid (hbad.out (fun h => by have := h.1; omega))
    go_wp2_with fail
    go_ret
    exact ⟨ret_bool hv2.out.symm, hb⟩
  by_cases f15 : 1099511627776 < o.pay
  · have hv2 := Lib.hid (hbad.out (fun h => by have := h.1; omega))
    go_wp2_with fail
    go_ret
    exact ⟨ret_bool hv2.out.symm, hb⟩
  have hC : Hid (¬ o.from_ < 0 ∧ ¬ n ≤ o.from_ ∧ ¬ o.dest < 0 ∧ ¬ n ≤ o.dest ∧ ¬ o.from_ = o.dest ∧ ¬ o.person < 0 ∧ ¬ people ≤ o.person ∧ ¬ o.cls < 0 ∧ ¬ classes ≤ o.cls ∧ ¬ o.after < 0 ∧ ¬ o.by_ ≤ o.after ∧ ¬ 2097152 ≤ o.by_ ∧ ¬ o.crowd < 1 ∧ ¬ 64 < o.crowd ∧ ¬ o.pay < 0 ∧ ¬ 1099511627776 < o.pay) := Lib.hid ⟨f0, f1, f2, f3, f4.out, f5, f6, f7, f8, f9, f10, f11, f12, f13, f14, f15⟩
  have d8 : w1.cell? ⟨W.heap.size, 8, none⟩ = some (.slice A o.ag.length c) := BT.cell 8
  go_wp2_with fail
  clear d0 d1 d2 d3 d4 d5 d6 d7 d8 g4 f0 f1 f2 f3 f4 f5 f6 f7 f8 f9 f10 f11 f12 f13 f14 f15
  go_loopw [9] (fun i wr => ∃ k : Nat, k ≤ o.ag.length ∧ i = .int .i64 k ∧ Below W.heap.size W wr ∧ Blk wr W.heap.size 65 (o.cl (.slice A o.ag.length c)).toArray ∧ Hid (agB n (-1) o.ag = agB n (prevA o.ag k) (o.ag.drop k) ∧ -1 ≤ prevA o.ag k)) (fun i _ => o.ag.length - (intOf i).toNat)
  case atStart => exact ⟨0, Nat.zero_le _, rfl, hb, BT, Lib.hid ⟨rfl, by show (-1 : Int) ≤ -1; omega⟩⟩
  case round =>
    clear hb BT
    obtain ⟨k, hkn, rfl, hb, BT, hp⟩ := hrel
    have d8 : wr.cell? ⟨W.heap.size, 8, none⟩ = some (.slice A o.ag.length c) := BT.cell 8
    by_cases hlt : k < o.ag.length
    · obtain ⟨a, hx⟩ : ∃ y, Hid (o.ag[k]? = some y) := ⟨_, Lib.hid (List.getElem?_eq_getElem hlt)⟩
      have hdrop : Hid (o.ag.drop k = a :: o.ag.drop (k + 1)) := Lib.hid (by
        obtain ⟨hk, e⟩ := List.getElem?_eq_some_iff.1 hx.out
        rw [List.drop_eq_getElem_cons hk, e])
      have hnext : Hid (prevA o.ag (k + 1) = a) := Lib.hid (by show (match o.ag[k]? with | some g => g | none => 0) = _; rw [hx.out])
      have hbz := hb.size
      obtain ⟨b1, o1, rfl, l1, hc⟩ := (r.below hb).2 (by omega)
      have e0 := hc k _ (ints_at hx.out)
      have i0 : (0 : Int) ≤ (k : Int) := by omega
      have i1 : (k : Int) < (o.ag.length : Int) := by omega
      have hbad2 : Hid (¬ prevA o.ag k < a ∨ ¬ a < n → v = false) := Lib.hid (fun h => hbad.out (fun h9 => by
        have h8 := h9.2.2
        rw [hp.out.1, hdrop.out, agB_bad h] at h8
        cases h8))
      have hgood2 : Hid (prevA o.ag k < a → a < n → agB n (-1) o.ag = agB n (prevA o.ag (k + 1)) (o.ag.drop (k + 1)) ∧ -1 ≤ prevA o.ag (k + 1)) := Lib.hid (fun h h2 => ⟨by rw [hp.out.1, hdrop.out, agB_cons h h2, hnext.out], by rw [hnext.out]; have := hp.out.2; omega⟩)
      have hm1 := hp.out.2
      have KS : Hid (∀ w', Below wr.heap.size wr w' → w'.cell? ⟨W.heap.size, 8, none⟩ = some (.slice (some ⟨b1, o1, none⟩) o.ag.length c) ∧ w'.cell? ⟨b1, o1 + k, none⟩ = some (.int .i64 a)) := Lib.hid (fun w' h => ⟨(BT.below h BT.lt).cell 8, (h.cell (p := ⟨b1, o1 + k, none⟩) (by show b1 < _; omega)).trans e0⟩)
      clear e0
      by_cases f8 : a < 0
      · have hv2 := Lib.hid (hbad2.out (.inl (by omega)))
        clear hbad2 hgood2 hm1
        go_upto_region 8 with fail
        refine wp_region_schN (g := 0) KS [(0, 1), (1, 2), (2, 1), (3, 1), (4, 2), (5, 1), (6, 1), (7, 1), (8, 1), (9, 1), (10, 1), (11, 1), (12, 1), (13, 1), (14, 1), (15, 1), (16, 1), (17, 1), (18, 1), (19, 1), (20, 1), (21, 1), (22, 1), (23, 1), (24, 1), (25, 1), (26, 1), (27, 1), (28, 1), (29, 1), (30, 1), (31, 1), (32, 1)] ?_
        simp only [pickS, List.getElem?_cons_zero, List.getElem?_cons_succ]
        refine wpSchedN_t ?_
        refine wpSchedN_r ?_
        refine wpSchedN_t ?_
        refine wpSchedN_t ?_
        refine wpSchedN_r ?_
        refine wpSchedN_t ?_
        refine wpSchedN_t ?_
        refine wpSchedN_p ?_
        refine wpSchedN_p ?_
        refine wpSchedN_p ?_
        refine wpSchedN_p ?_
        refine wpSchedN_p ?_
        refine wpSchedN_p ?_
        refine wpSchedN_p ?_
        refine wpSchedN_t ?_
        refine wpSchedN_t ?_
        refine wpSchedN_p ?_
        refine wpSchedN_p ?_
        refine wpSchedN_p ?_
        refine wpSchedN_p ?_
        refine wpSchedN_p ?_
        refine wpSchedN_p ?_
        refine wpSchedN_p ?_
        refine wpSchedN_p ?_
        refine wpSchedN_p ?_
        refine wpSchedN_p ?_
        refine wpSchedN_p ?_
        refine wpSchedN_p ?_
        refine wpSchedN_p ?_
        refine wpSchedN_p ?_
        refine wpSchedN_p ?_
        refine wpSchedN_p ?_
        refine wpSchedN_t ?_
        refine anyN_end ?_
        refine NoPanic.normal ?_
        go_wp2_with fail
        go_ret
        exact ⟨ret_bool hv2.out.symm, bDr hb⟩
      by_cases f9 : n ≤ a
      · have hv2 := Lib.hid (hbad2.out (.inr (by omega)))
        clear hbad2 hgood2 hm1
        go_upto_region 8 with fail
        refine wp_region_schN (g := 0) KS [(0, 1), (1, 2), (2, 1), (3, 1), (4, 2), (5, 1), (6, 1), (7, 1), (8, 2), (9, 1), (10, 1), (11, 2), (12, 1), (13, 1), (14, 1), (15, 1), (16, 1), (17, 1), (18, 1), (19, 1), (20, 1), (21, 1), (22, 1), (23, 1), (24, 1), (25, 1), (26, 1), (27, 1), (28, 1), (29, 1), (30, 1), (31, 1), (32, 1)] ?_
        simp only [pickS, List.getElem?_cons_zero, List.getElem?_cons_succ]
        refine wpSchedN_t ?_
        refine wpSchedN_r ?_
        refine wpSchedN_t ?_
        refine wpSchedN_t ?_
        refine wpSchedN_r ?_
        refine wpSchedN_t ?_
        refine wpSchedN_t ?_
        refine wpSchedN_t ?_
        refine wpSchedN_r ?_
        refine wpSchedN_t ?_
        refine wpSchedN_t ?_
        refine wpSchedN_r ?_
        refine wpSchedN_t ?_
        refine wpSchedN_t ?_
        refine wpSchedN_t ?_
        refine wpSchedN_t ?_
        refine wpSchedN_p ?_
        refine wpSchedN_p ?_
        refine wpSchedN_p ?_
        refine wpSchedN_p ?_
        refine wpSchedN_p ?_
        refine wpSchedN_p ?_
        refine wpSchedN_p ?_
        refine wpSchedN_p ?_
        refine wpSchedN_p ?_
        refine wpSchedN_p ?_
        refine wpSchedN_p ?_
        refine wpSchedN_p ?_
        refine wpSchedN_p ?_
        refine wpSchedN_p ?_
        refine wpSchedN_p ?_
        refine wpSchedN_p ?_
        refine wpSchedN_t ?_
        refine anyN_end ?_
        refine NoPanic.normal ?_
        go_wp2_with fail
        go_ret
        exact ⟨ret_bool hv2.out.symm, bDr hb⟩
      obtain _ | k' := k
      · have hP0 : prevA o.ag 0 = -1 := rfl
        have KS0 : Hid (∀ w', Below wr.heap.size wr w' → w'.cell? ⟨W.heap.size, 8, none⟩ = some (.slice (some ⟨b1, o1, none⟩) o.ag.length c) ∧ w'.cell? ⟨b1, o1, none⟩ = some (.int .i64 a)) := Lib.hid (fun w' h => by have := KS.out w' h; simpa only [Nat.add_zero] using this)
        have i6 : (0 : Int) < (o.ag.length : Int) := by omega
        have hnx := Lib.hid (hgood2.out (by rw [hP0]; omega) (by omega))
        clear KS hbad2 hgood2 hc
        go_upto_region 8 with fail
        refine wp_region_schN (g := 0) KS0 [(0, 1), (1, 2), (2, 1), (3, 1), (4, 2), (5, 1), (6, 1), (7, 1), (8, 2), (9, 1), (10, 1), (11, 2), (12, 1), (13, 1), (14, 1), (15, 1), (16, 1), (17, 1), (18, 1), (19, 1), (20, 1), (21, 1), (22, 1), (23, 1), (24, 1), (25, 1), (26, 1), (27, 1), (28, 1), (29, 1), (30, 1), (31, 1), (32, 1)] ?_
        simp only [pickS, List.getElem?_cons_zero, List.getElem?_cons_succ]
        refine wpSchedN_t ?_
        refine wpSchedN_r ?_
        refine wpSchedN_t ?_
        refine wpSchedN_t ?_
        refine wpSchedN_r ?_
        refine wpSchedN_t ?_
        refine wpSchedN_t ?_
        refine wpSchedN_t ?_
        refine wpSchedN_r ?_
        refine wpSchedN_t ?_
        refine wpSchedN_t ?_
        refine wpSchedN_r ?_
        refine wpSchedN_t ?_
        refine wpSchedN_t ?_
        refine wpSchedN_t ?_
        refine wpSchedN_t ?_
        refine wpSchedN_t ?_
        refine wpSchedN_t ?_
        refine wpSchedN_t ?_
        refine wpSchedN_p ?_
        refine wpSchedN_p ?_
        refine wpSchedN_p ?_
        refine wpSchedN_p ?_
        refine wpSchedN_p ?_
        refine wpSchedN_p ?_
        refine wpSchedN_p ?_
        refine wpSchedN_p ?_
        refine wpSchedN_p ?_
        refine wpSchedN_p ?_
        refine wpSchedN_p ?_
        refine wpSchedN_p ?_
        refine wpSchedN_t ?_
        refine wpSchedN_t ?_
        refine anyN_end ?_
        refine NoPanic.normal ?_
        go_wp2_with fail
        exact ⟨⟨0 + 1, by omega, by go_num, bDr hb, BT, Lib.hid hnx.out⟩, by simp [intOf]; omega⟩
      · obtain ⟨z, hz⟩ : ∃ y, Hid (o.ag[k']? = some y) := ⟨_, Lib.hid (List.getElem?_eq_getElem (by omega))⟩
        have hPz : prevA o.ag (k' + 1) = z := by show (match o.ag[k']? with | some g => g | none => 0) = _; rw [hz.out]
        rw [hPz] at hbad2 hgood2 hm1
        have c3 := hc k' _ (ints_at hz.out)
        have i2 : (0 : Int) ≤ (k' : Int) := by omega
        have i3 : (k' : Int) < (o.ag.length : Int) := by omega
        have i4 : IntKind.i64.wrap (k' : Int) = (k' : Int) := by rw [IntKind.wrap_i64]; omega
        have i5 : (0 : Int) ≤ (k' : Int) + 1 := by omega
        have i6 : (k' : Int) + 1 < (o.ag.length : Int) := by omega
        have KT : Hid (∀ w', Below wr.heap.size wr w' → w'.cell? ⟨W.heap.size, 8, none⟩ = some (.slice (some ⟨b1, o1, none⟩) o.ag.length c) ∧ w'.cell? ⟨b1, o1 + (k' + 1), none⟩ = some (.int .i64 a) ∧ w'.cell? ⟨b1, o1 + k', none⟩ = some (.int .i64 z)) := Lib.hid (fun w' h => ⟨(KS.out w' h).1, (KS.out w' h).2, (h.cell (p := ⟨b1, o1 + k', none⟩) (by show b1 < _; omega)).trans c3⟩)
        clear hc c3 hPz
        by_cases f10 : a ≤ z
        · have hv2 := Lib.hid (hbad2.out (.inl (by omega)))
          clear hbad2 hgood2 hm1
          go_upto_region 8 with fail
          refine wp_region_schN (g := 0) KT [(0, 1), (1, 2), (2, 1), (3, 1), (4, 2), (5, 1), (6, 1), (7, 1), (8, 2), (9, 1), (10, 1), (11, 2), (12, 1), (13, 1), (14, 1), (15, 1), (16, 1), (17, 1), (18, 1), (19, 1), (20, 2), (21, 1), (22, 1), (23, 1), (24, 2), (25, 1), (26, 2), (27, 1), (28, 1), (29, 2), (30, 1), (31, 1), (32, 1)] ?_
          simp only [pickS, List.getElem?_cons_zero, List.getElem?_cons_succ]
          refine wpSchedN_t ?_
          refine wpSchedN_r ?_
          refine wpSchedN_t ?_
          refine wpSchedN_t ?_
          refine wpSchedN_r ?_
          refine wpSchedN_t ?_
          refine wpSchedN_t ?_
          refine wpSchedN_t ?_
          refine wpSchedN_r ?_
          refine wpSchedN_t ?_
          refine wpSchedN_t ?_
          refine wpSchedN_r ?_
          refine wpSchedN_t ?_
          refine wpSchedN_t ?_
          refine wpSchedN_t ?_
          refine wpSchedN_t ?_
          refine wpSchedN_t ?_
          refine wpSchedN_t ?_
          refine wpSchedN_t ?_
          refine wpSchedN_t ?_
          refine wpSchedN_r ?_
          refine wpSchedN_t ?_
          refine wpSchedN_t ?_
          refine wpSchedN_t ?_
          refine wpSchedN_r ?_
          refine wpSchedN_t ?_
          refine wpSchedN_r ?_
          refine wpSchedN_t ?_
          refine wpSchedN_t ?_
          refine wpSchedN_r ?_
          refine wpSchedN_t ?_
          refine wpSchedN_t ?_
          refine wpSchedN_t ?_
          refine anyN_end ?_
          refine NoPanic.normal ?_
          go_wp2_with fail
          go_ret
          exact ⟨ret_bool hv2.out.symm, bDr hb⟩
        have hnx := Lib.hid (hgood2.out (by omega) (by omega))
        clear hbad2 hgood2 hm1
        go_upto_region 8 with fail
        refine wp_region_schN (g := 0) KT [(0, 1), (1, 2), (2, 1), (3, 1), (4, 2), (5, 1), (6, 1), (7, 1), (8, 2), (9, 1), (10, 1), (11, 2), (12, 1), (13, 1), (14, 1), (15, 1), (16, 1), (17, 1), (18, 1), (19, 1), (20, 2), (21, 1), (22, 1), (23, 1), (24, 2), (25, 1), (26, 2), (27, 1), (28, 1), (29, 2), (30, 1), (31, 1), (32, 1)] ?_
        simp only [pickS, List.getElem?_cons_zero, List.getElem?_cons_succ]
        refine wpSchedN_t ?_
        refine wpSchedN_r ?_
        refine wpSchedN_t ?_
        refine wpSchedN_t ?_
        refine wpSchedN_r ?_
        refine wpSchedN_t ?_
        refine wpSchedN_t ?_
        refine wpSchedN_t ?_
        refine wpSchedN_r ?_
        refine wpSchedN_t ?_
        refine wpSchedN_t ?_
        refine wpSchedN_r ?_
        refine wpSchedN_t ?_
        refine wpSchedN_t ?_
        refine wpSchedN_t ?_
        refine wpSchedN_t ?_
        refine wpSchedN_t ?_
        refine wpSchedN_t ?_
        refine wpSchedN_t ?_
        refine wpSchedN_t ?_
        refine wpSchedN_r ?_
        refine wpSchedN_t ?_
        refine wpSchedN_t ?_
        refine wpSchedN_t ?_
        refine wpSchedN_r ?_
        refine wpSchedN_t ?_
        refine wpSchedN_r ?_
        refine wpSchedN_t ?_
        refine wpSchedN_t ?_
        refine wpSchedN_r ?_
        refine wpSchedN_t ?_
        refine wpSchedN_t ?_
        refine wpSchedN_t ?_
        refine anyN_end ?_
        refine NoPanic.normal ?_
        go_wp2_with fail
        exact ⟨⟨k' + 1 + 1, by omega, by go_num, bDr hb, BT, Lib.hid hnx.out⟩, by simp [intOf]; omega⟩
    · have hag : Hid (agB n (-1) o.ag = true) := Lib.hid (by rw [hp.out.1, List.drop_of_length_le (by omega)]; rfl)
      have d10 : wr.cell? ⟨W.heap.size, 10, none⟩ = some (.int .i64 o.els) := BT.cell 10
      by_cases e0 : o.els = 0
      · have hv2 := Lib.hid (hv.out.symm.trans (oright_iff.2 ⟨by have := hC.out; omega, .inl e0, hag.out⟩))
        have g0 : (o.els == 0) = true := by simp only [beq_iff_eq]; exact e0
        clear e0
        go_wp2_with fail
        go_ret
        exact ⟨ret_bool hv2.out.symm, hb⟩
      have g0 : (o.els == 0) = false := by simp only [beq_eq_false_iff_ne]; exact e0
      by_cases e1 : o.els = 1
      · have hv2 := Lib.hid (hv.out.symm.trans (oright_iff.2 ⟨by have := hC.out; omega, .inr (.inl e1), hag.out⟩))
        have g1 : (o.els == 1) = true := by simp only [beq_iff_eq]; exact e1
        clear e0 e1
        go_wp2_with fail
        go_ret
        exact ⟨ret_bool hv2.out.symm, hb⟩
      have g1 : (o.els == 1) = false := by simp only [beq_eq_false_iff_ne]; exact e1
      by_cases e2 : o.els = 2
      · have hv2 := Lib.hid (hv.out.symm.trans (oright_iff.2 ⟨by have := hC.out; omega, .inr (.inr e2), hag.out⟩))
        have g2 : (o.els == 2) = true := by simp only [beq_iff_eq]; exact e2
        clear e0 e1 e2
        go_wp2_with fail
        go_ret
        exact ⟨ret_bool hv2.out.symm, hb⟩
      have g2 : (o.els == 2) = false := by simp only [beq_eq_false_iff_ne]; exact e2
      have hv2 := Lib.hid (hbad.out (fun h => by have := h.2.1; omega))
      clear e0 e1 e2
      go_wp2_with fail
      go_ret
      exact ⟨ret_bool hv2.out.symm, hb⟩
end Go.Proofs.YtmbopkcmbiommaaGreatDoor

/-
  The reference's registry: an entry; walked.
-/
namespace Go.Proofs.YtmbopkcmbiommaaGreatDoor
open Go Go.RowKit

theorem rg_id (n : Int) (W : World) : Calls Tryz.prog 128 #[.int .i64 n] W (Same (.bool (idB n)) W) := by
  unfold idB btw
  cases h1 : decide (0 ≤ n) <;> cases h2 : decide (n ≤ 1048576)
  all_goals
    go_enter Tryz.func128, Tryz.ntmps128
    go_wp2_with fail
    go_ret
    exact ⟨by simp_all, rfl⟩
theorem rg_span (a b : Int) (W : World) : Calls Tryz.prog 129 #[.int .i64 a, .int .i64 b] W (Same (.bool (spanB a b)) W) := by
  unfold spanB
  by_cases h1 : 0 ≤ a <;> by_cases h2 : a < b <;> by_cases h3 : b ≤ 2097152
  all_goals
    go_enter Tryz.func129, Tryz.ntmps129
    go_wp2_with fail
    go_ret
    exact ⟨by simp_all, rfl⟩
set_option maxRecDepth 100000 in
set_option maxHeartbeats 8000000 in
theorem rg_valid (x : Ent) (W : World) : Calls Tryz.prog 84 #[.agg x.cl.toArray] W (Ret (.bool x.right) W) := by
  obtain ⟨v, hv⟩ : ∃ v, Hid (x.right = v) := ⟨_, Lib.hid rfl⟩
  rw [hv.out]
  have hv1 : Hid ((idB x.no && (idB x.a && ((if x.kind = 1 then blw x.b 24 else if x.kind = 2 then decide (x.a ≠ x.b) && idB x.b else decide ((x.kind = 3 ∨ x.kind = 4) ∧ x.b = 0)) && (spanB x.from_ x.until_ && spanB x.known x.gone)))) = v) := Lib.hid hv.out
  clear hv
  have BT := Blk.new W 67 x.cl.toArray _ rfl
  have hb := bAl (bRefl W) (.cells x.cl.toArray 67)
  go_enter Tryz.func84, Tryz.ntmps84
  go_upto_region 1 with fail
  generalize W.alloc (.cells x.cl.toArray 67) = w1 at *
  have d0 : w1.cell? ⟨W.heap.size, 0, none⟩ = some (.int .i64 x.no) := BT.cell 0
  have d1 : w1.cell? ⟨W.heap.size, 1, none⟩ = some (.int .i64 x.kind) := BT.cell 1
  have d2 : w1.cell? ⟨W.heap.size, 2, none⟩ = some (.int .i64 x.a) := BT.cell 2
  have d3 : w1.cell? ⟨W.heap.size, 3, none⟩ = some (.int .i64 x.b) := BT.cell 3
  have d4 : w1.cell? ⟨W.heap.size, 4, none⟩ = some (.int .i64 x.from_) := BT.cell 4
  have d5 : w1.cell? ⟨W.heap.size, 5, none⟩ = some (.int .i64 x.until_) := BT.cell 5
  have d6 : w1.cell? ⟨W.heap.size, 6, none⟩ = some (.int .i64 x.known) := BT.cell 6
  have d7 : w1.cell? ⟨W.heap.size, 7, none⟩ = some (.int .i64 x.gone) := BT.cell 7
  clear BT
  obtain ⟨no, kind, a, b, fr, un, kn, go⟩ := x
  dsimp only at *
  have q1 := rg_id no
  have q2 := rg_id a
  have q3 := rg_span fr un
  have q4 := rg_span kn go
  have q5 := rg_id b
  generalize idB no = p1 at *
  generalize idB a = p2 at *
  generalize spanB fr un = p3 at *
  generalize spanB kn go = p4 at *
  cases p1
  · have hv2 : Hid (v = false) := Lib.hid (by rw [← hv1.out]; rfl)
    clear hv1
    go_wp2_with (first | (go_at_call 128; first | ((with_reducible refine (q1 _).mono ?_); rintro e w6 ⟨rfl, rfl⟩) | ((with_reducible refine (q2 _).mono ?_); rintro e w6 ⟨rfl, rfl⟩) | ((with_reducible refine (q5 _).mono ?_); rintro e w6 ⟨rfl, rfl⟩)) | (go_at_call 129; first | ((with_reducible refine (q3 _).mono ?_); rintro e w6 ⟨rfl, rfl⟩) | ((with_reducible refine (q4 _).mono ?_); rintro e w6 ⟨rfl, rfl⟩)))
    go_ret
    exact ⟨ret_bool hv2.out.symm, hb⟩
  cases p2
  · have hv2 : Hid (v = false) := Lib.hid (by rw [← hv1.out]; rfl)
    clear hv1
    go_wp2_with (first | (go_at_call 128; first | ((with_reducible refine (q1 _).mono ?_); rintro e w6 ⟨rfl, rfl⟩) | ((with_reducible refine (q2 _).mono ?_); rintro e w6 ⟨rfl, rfl⟩) | ((with_reducible refine (q5 _).mono ?_); rintro e w6 ⟨rfl, rfl⟩)) | (go_at_call 129; first | ((with_reducible refine (q3 _).mono ?_); rintro e w6 ⟨rfl, rfl⟩) | ((with_reducible refine (q4 _).mono ?_); rintro e w6 ⟨rfl, rfl⟩)))
    go_ret
    exact ⟨ret_bool hv2.out.symm, hb⟩
  cases p3
  · have hv2 : Hid (v = false) := Lib.hid (by rw [← hv1.out]; (cases (if kind = 1 then blw b 24 else if kind = 2 then decide (a ≠ b) && idB b else decide ((kind = 3 ∨ kind = 4) ∧ b = 0)) <;> rfl))
    clear hv1
    go_wp2_with (first | (go_at_call 128; first | ((with_reducible refine (q1 _).mono ?_); rintro e w6 ⟨rfl, rfl⟩) | ((with_reducible refine (q2 _).mono ?_); rintro e w6 ⟨rfl, rfl⟩) | ((with_reducible refine (q5 _).mono ?_); rintro e w6 ⟨rfl, rfl⟩)) | (go_at_call 129; first | ((with_reducible refine (q3 _).mono ?_); rintro e w6 ⟨rfl, rfl⟩) | ((with_reducible refine (q4 _).mono ?_); rintro e w6 ⟨rfl, rfl⟩)))
    go_ret
    exact ⟨ret_bool hv2.out.symm, hb⟩
  cases p4
  · have hv2 : Hid (v = false) := Lib.hid (by rw [← hv1.out]; (cases (if kind = 1 then blw b 24 else if kind = 2 then decide (a ≠ b) && idB b else decide ((kind = 3 ∨ kind = 4) ∧ b = 0)) <;> rfl))
    clear hv1
    go_wp2_with (first | (go_at_call 128; first | ((with_reducible refine (q1 _).mono ?_); rintro e w6 ⟨rfl, rfl⟩) | ((with_reducible refine (q2 _).mono ?_); rintro e w6 ⟨rfl, rfl⟩) | ((with_reducible refine (q5 _).mono ?_); rintro e w6 ⟨rfl, rfl⟩)) | (go_at_call 129; first | ((with_reducible refine (q3 _).mono ?_); rintro e w6 ⟨rfl, rfl⟩) | ((with_reducible refine (q4 _).mono ?_); rintro e w6 ⟨rfl, rfl⟩)))
    go_ret
    exact ⟨ret_bool hv2.out.symm, hb⟩
  have hv2 : Hid ((if kind = 1 then blw b 24 else if kind = 2 then decide (a ≠ b) && idB b else decide ((kind = 3 ∨ kind = 4) ∧ b = 0)) = v) := Lib.hid (by rw [← hv1.out]; cases (if kind = 1 then blw b 24 else if kind = 2 then decide (a ≠ b) && idB b else decide ((kind = 3 ∨ kind = 4) ∧ b = 0)) <;> rfl)
  clear hv1
  by_cases k1 : kind = 1
  · have g1 : (kind == 1) = true := by simp only [beq_iff_eq]; exact k1
    by_cases b0 : 0 ≤ b
    · by_cases b1 : b < 24
      · have hv3 : Hid (v = true) := Lib.hid (by rw [← hv2.out]; rw [if_pos k1]; unfold blw; rw [decide_eq_true b0, decide_eq_true b1]; rfl)
        clear hv2 k1
        go_wp2_with (first | (go_at_call 128; first | ((with_reducible refine (q1 _).mono ?_); rintro e w6 ⟨rfl, rfl⟩) | ((with_reducible refine (q2 _).mono ?_); rintro e w6 ⟨rfl, rfl⟩) | ((with_reducible refine (q5 _).mono ?_); rintro e w6 ⟨rfl, rfl⟩)) | (go_at_call 129; first | ((with_reducible refine (q3 _).mono ?_); rintro e w6 ⟨rfl, rfl⟩) | ((with_reducible refine (q4 _).mono ?_); rintro e w6 ⟨rfl, rfl⟩)))
        go_ret
        exact ⟨ret_bool hv3.out.symm, hb⟩
      · have hv3 : Hid (v = false) := Lib.hid (by rw [← hv2.out]; rw [if_pos k1]; unfold blw; rw [decide_eq_false b1, Bool.and_false])
        clear hv2 k1
        go_wp2_with (first | (go_at_call 128; first | ((with_reducible refine (q1 _).mono ?_); rintro e w6 ⟨rfl, rfl⟩) | ((with_reducible refine (q2 _).mono ?_); rintro e w6 ⟨rfl, rfl⟩) | ((with_reducible refine (q5 _).mono ?_); rintro e w6 ⟨rfl, rfl⟩)) | (go_at_call 129; first | ((with_reducible refine (q3 _).mono ?_); rintro e w6 ⟨rfl, rfl⟩) | ((with_reducible refine (q4 _).mono ?_); rintro e w6 ⟨rfl, rfl⟩)))
        go_ret
        exact ⟨ret_bool ((decide_eq_false (by omega)).trans hv3.out.symm), hb⟩
    · have hv3 : Hid (v = false) := Lib.hid (by rw [← hv2.out]; rw [if_pos k1]; unfold blw; rw [decide_eq_false b0, Bool.false_and])
      clear hv2 k1
      go_wp2_with (first | (go_at_call 128; first | ((with_reducible refine (q1 _).mono ?_); rintro e w6 ⟨rfl, rfl⟩) | ((with_reducible refine (q2 _).mono ?_); rintro e w6 ⟨rfl, rfl⟩) | ((with_reducible refine (q5 _).mono ?_); rintro e w6 ⟨rfl, rfl⟩)) | (go_at_call 129; first | ((with_reducible refine (q3 _).mono ?_); rintro e w6 ⟨rfl, rfl⟩) | ((with_reducible refine (q4 _).mono ?_); rintro e w6 ⟨rfl, rfl⟩)))
      go_ret
      exact ⟨ret_bool hv3.out.symm, hb⟩
  have g1 : (kind == 1) = false := by simp only [beq_eq_false_iff_ne]; exact k1
  by_cases k2 : kind = 2
  · have g2 : (kind == 2) = true := by simp only [beq_iff_eq]; exact k2
    generalize h5 : idB b = p5 at *
    cases p5
    · have hv3 : Hid (v = false) := Lib.hid (by rw [← hv2.out]; rw [if_neg k1, if_pos k2, Bool.and_false])
      clear hv2 h5 k1 k2
      go_wp2_with (first | (go_at_call 128; first | ((with_reducible refine (q1 _).mono ?_); rintro e w6 ⟨rfl, rfl⟩) | ((with_reducible refine (q2 _).mono ?_); rintro e w6 ⟨rfl, rfl⟩) | ((with_reducible refine (q5 _).mono ?_); rintro e w6 ⟨rfl, rfl⟩)) | (go_at_call 129; first | ((with_reducible refine (q3 _).mono ?_); rintro e w6 ⟨rfl, rfl⟩) | ((with_reducible refine (q4 _).mono ?_); rintro e w6 ⟨rfl, rfl⟩)))
      go_ret
      exact ⟨ret_bool hv3.out.symm, hb⟩
    by_cases e : b = a
    · have ge : (b != a) = false := by simp only [bne_eq_false_iff_eq]; exact e
      have hv3 : Hid (v = false) := Lib.hid (by rw [← hv2.out]; rw [if_neg k1, if_pos k2, decide_eq_false (fun h => h e.symm), Bool.false_and])
      clear hv2 h5 k1 k2 e
      go_wp2_with (first | (go_at_call 128; first | ((with_reducible refine (q1 _).mono ?_); rintro e w6 ⟨rfl, rfl⟩) | ((with_reducible refine (q2 _).mono ?_); rintro e w6 ⟨rfl, rfl⟩) | ((with_reducible refine (q5 _).mono ?_); rintro e w6 ⟨rfl, rfl⟩)) | (go_at_call 129; first | ((with_reducible refine (q3 _).mono ?_); rintro e w6 ⟨rfl, rfl⟩) | ((with_reducible refine (q4 _).mono ?_); rintro e w6 ⟨rfl, rfl⟩)))
      go_ret
      exact ⟨ret_bool hv3.out.symm, hb⟩
    · have ge : (b != a) = true := by simp only [bne_iff_ne, ne_eq]; exact e
      have hv3 : Hid (v = true) := Lib.hid (by rw [← hv2.out]; rw [if_neg k1, if_pos k2, decide_eq_true (p := a ≠ b) (fun h => e h.symm), Bool.true_and])
      clear hv2 h5 k1 k2 e
      go_wp2_with (first | (go_at_call 128; first | ((with_reducible refine (q1 _).mono ?_); rintro e w6 ⟨rfl, rfl⟩) | ((with_reducible refine (q2 _).mono ?_); rintro e w6 ⟨rfl, rfl⟩) | ((with_reducible refine (q5 _).mono ?_); rintro e w6 ⟨rfl, rfl⟩)) | (go_at_call 129; first | ((with_reducible refine (q3 _).mono ?_); rintro e w6 ⟨rfl, rfl⟩) | ((with_reducible refine (q4 _).mono ?_); rintro e w6 ⟨rfl, rfl⟩)))
      go_ret
      exact ⟨ret_bool hv3.out.symm, hb⟩
  have g2 : (kind == 2) = false := by simp only [beq_eq_false_iff_ne]; exact k2
  by_cases b0 : b = 0
  · have gb : (b == 0) = true := by simp only [beq_iff_eq]; exact b0
    by_cases k3 : kind = 3
    · have g3 : (kind == 3) = true := by simp only [beq_iff_eq]; exact k3
      have hv3 : Hid (v = true) := Lib.hid (by rw [← hv2.out]; rw [if_neg k1, if_neg k2, decide_eq_true (show (kind = 3 ∨ kind = 4) ∧ b = 0 from ⟨.inl k3, b0⟩)])
      clear hv2 b0 k1 k2 k3
      go_wp2_with (first | (go_at_call 128; first | ((with_reducible refine (q1 _).mono ?_); rintro e w6 ⟨rfl, rfl⟩) | ((with_reducible refine (q2 _).mono ?_); rintro e w6 ⟨rfl, rfl⟩) | ((with_reducible refine (q5 _).mono ?_); rintro e w6 ⟨rfl, rfl⟩)) | (go_at_call 129; first | ((with_reducible refine (q3 _).mono ?_); rintro e w6 ⟨rfl, rfl⟩) | ((with_reducible refine (q4 _).mono ?_); rintro e w6 ⟨rfl, rfl⟩)))
      go_ret
      exact ⟨ret_bool hv3.out.symm, hb⟩
    have g3 : (kind == 3) = false := by simp only [beq_eq_false_iff_ne]; exact k3
    by_cases k4 : kind = 4
    · have g4 : (kind == 4) = true := by simp only [beq_iff_eq]; exact k4
      have hv3 : Hid (v = true) := Lib.hid (by rw [← hv2.out]; rw [if_neg k1, if_neg k2, decide_eq_true (show (kind = 3 ∨ kind = 4) ∧ b = 0 from ⟨.inr k4, b0⟩)])
      clear hv2 b0 k1 k2 k3 k4
      go_wp2_with (first | (go_at_call 128; first | ((with_reducible refine (q1 _).mono ?_); rintro e w6 ⟨rfl, rfl⟩) | ((with_reducible refine (q2 _).mono ?_); rintro e w6 ⟨rfl, rfl⟩) | ((with_reducible refine (q5 _).mono ?_); rintro e w6 ⟨rfl, rfl⟩)) | (go_at_call 129; first | ((with_reducible refine (q3 _).mono ?_); rintro e w6 ⟨rfl, rfl⟩) | ((with_reducible refine (q4 _).mono ?_); rintro e w6 ⟨rfl, rfl⟩)))
      go_ret
      exact ⟨ret_bool hv3.out.symm, hb⟩
    have g4 : (kind == 4) = false := by simp only [beq_eq_false_iff_ne]; exact k4
    have hv3 : Hid (v = false) := Lib.hid (by rw [← hv2.out]; rw [if_neg k1, if_neg k2, decide_eq_false (by omega)])
    clear hv2 b0 k1 k2 k3 k4
    go_wp2_with (first | (go_at_call 128; first | ((with_reducible refine (q1 _).mono ?_); rintro e w6 ⟨rfl, rfl⟩) | ((with_reducible refine (q2 _).mono ?_); rintro e w6 ⟨rfl, rfl⟩) | ((with_reducible refine (q5 _).mono ?_); rintro e w6 ⟨rfl, rfl⟩)) | (go_at_call 129; first | ((with_reducible refine (q3 _).mono ?_); rintro e w6 ⟨rfl, rfl⟩) | ((with_reducible refine (q4 _).mono ?_); rintro e w6 ⟨rfl, rfl⟩)))
    go_ret
    exact ⟨ret_bool hv3.out.symm, hb⟩
  · have gb : (b == 0) = false := by simp only [beq_eq_false_iff_ne]; exact b0
    by_cases k3 : kind = 3
    · have g3 : (kind == 3) = true := by simp only [beq_iff_eq]; exact k3
      have hv3 : Hid (v = false) := Lib.hid (by rw [← hv2.out]; rw [if_neg k1, if_neg k2, decide_eq_false (by omega)])
      clear hv2 b0 k1 k2 k3
      go_wp2_with (first | (go_at_call 128; first | ((with_reducible refine (q1 _).mono ?_); rintro e w6 ⟨rfl, rfl⟩) | ((with_reducible refine (q2 _).mono ?_); rintro e w6 ⟨rfl, rfl⟩) | ((with_reducible refine (q5 _).mono ?_); rintro e w6 ⟨rfl, rfl⟩)) | (go_at_call 129; first | ((with_reducible refine (q3 _).mono ?_); rintro e w6 ⟨rfl, rfl⟩) | ((with_reducible refine (q4 _).mono ?_); rintro e w6 ⟨rfl, rfl⟩)))
      go_ret
      exact ⟨ret_bool hv3.out.symm, hb⟩
    have g3 : (kind == 3) = false := by simp only [beq_eq_false_iff_ne]; exact k3
    by_cases k4 : kind = 4
    · have g4 : (kind == 4) = true := by simp only [beq_iff_eq]; exact k4
      have hv3 : Hid (v = false) := Lib.hid (by rw [← hv2.out]; rw [if_neg k1, if_neg k2, decide_eq_false (by omega)])
      clear hv2 b0 k1 k2 k3 k4
      go_wp2_with (first | (go_at_call 128; first | ((with_reducible refine (q1 _).mono ?_); rintro e w6 ⟨rfl, rfl⟩) | ((with_reducible refine (q2 _).mono ?_); rintro e w6 ⟨rfl, rfl⟩) | ((with_reducible refine (q5 _).mono ?_); rintro e w6 ⟨rfl, rfl⟩)) | (go_at_call 129; first | ((with_reducible refine (q3 _).mono ?_); rintro e w6 ⟨rfl, rfl⟩) | ((with_reducible refine (q4 _).mono ?_); rintro e w6 ⟨rfl, rfl⟩)))
      go_ret
      exact ⟨ret_bool hv3.out.symm, hb⟩
    have g4 : (kind == 4) = false := by simp only [beq_eq_false_iff_ne]; exact k4
    have hv3 : Hid (v = false) := Lib.hid (by rw [← hv2.out]; rw [if_neg k1, if_neg k2, decide_eq_false (by omega)])
    clear hv2 b0 k1 k2 k3 k4
    go_wp2_with (first | (go_at_call 128; first | ((with_reducible refine (q1 _).mono ?_); rintro e w6 ⟨rfl, rfl⟩) | ((with_reducible refine (q2 _).mono ?_); rintro e w6 ⟨rfl, rfl⟩) | ((with_reducible refine (q5 _).mono ?_); rintro e w6 ⟨rfl, rfl⟩)) | (go_at_call 129; first | ((with_reducible refine (q3 _).mono ?_); rintro e w6 ⟨rfl, rfl⟩) | ((with_reducible refine (q4 _).mono ?_); rintro e w6 ⟨rfl, rfl⟩)))
    go_ret
    exact ⟨ret_bool hv3.out.symm, hb⟩
end Go.Proofs.YtmbopkcmbiommaaGreatDoor
