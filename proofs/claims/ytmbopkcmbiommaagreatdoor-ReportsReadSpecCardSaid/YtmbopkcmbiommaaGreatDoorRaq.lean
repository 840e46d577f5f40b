/- The reference's timetable: Index, the calendar's Check, a line; walked. -/
import Derived.Test.YtmbopkcmbiommaaGreatDoorRap
import Derived.Test.YtmbopkcmbiommaaGreatDoorRaj
set_option maxRecDepth 1000000
set_option maxHeartbeats 16000000
namespace Go.Proofs.YtmbopkcmbiommaaGreatDoor
open Go Go.RowKit
theorem ra_index (A : Option Addr) (c : Nat) (l : List Int) (x : Int) (W : World) (hA : Rd W W.heap.size 1 A l.length (ints l)) (hn : l.length ≤ 1000000) :
    Calls Tryz.prog 127 #[.slice A l.length c, .int .i64 x] W (fun e w' => w' = W ∧ ((x ∈ l ∧ ∃ k : Nat, k < l.length ∧ e = .returned (.int .i64 (k : Nat))) ∨ (¬ x ∈ l ∧ e = .returned (.int .i64 (-1))))) := by
  go_enter Tryz.func127, Tryz.ntmps127
  go_wp2_with fail
  go_loopw [5] (fun i wr => ∃ k : Nat, k ≤ l.length ∧ i = .int .i64 k ∧ wr = W ∧ Hid (¬ x ∈ l.take k)) (fun i _ => l.length - (intOf i).toNat)
  case atStart => exact ⟨0, Nat.zero_le _, rfl, rfl, Lib.hid (by simp)⟩
  case round =>
    obtain ⟨k, hkn, rfl, rfl, hno⟩ := hrel
    by_cases hlt : k < l.length
    · obtain ⟨y, hy⟩ : ∃ y, Hid (l[k]? = some y) := ⟨_, Lib.hid (List.getElem?_eq_getElem hlt)⟩
      obtain ⟨b1, o1, rfl, l1, h1⟩ := hA.2 (by omega)
      have c1 := h1 k _ (ints_at hy.out)
      have i0 : (0 : Int) ≤ (k : Int) := by omega
      have i1 : (k : Int) < (l.length : Int) := by omega
      clear h1
      by_cases hxy : y = x
      · subst hxy
        have hm := Lib.hid (List.mem_of_getElem? hy.out)
        go_wp2_with fail
        go_ret
        exact ⟨rfl, .inl ⟨hm.out, k, hlt, rfl⟩⟩
      · have hne : (y == x) = false := by simpa using hxy
        have hno2 : Hid (¬ x ∈ l.take (k + 1)) := Lib.hid (by
          obtain ⟨hk, e⟩ := List.getElem?_eq_some_iff.1 hy.out
          rw [List.take_succ_eq_append_getElem hk, e]
          intro h
          rcases List.mem_append.1 h with h | h
          · exact hno.out h
          · exact hxy (List.mem_singleton.1 h).symm)
        go_wp2_with fail
        exact ⟨⟨k + 1, by omega, by go_num, trivial, hno2⟩, by simp [intOf]; omega⟩
    · have hno2 : Hid (¬ x ∈ l) := Lib.hid (by have := hno.out; rwa [List.take_of_length_le (by omega)] at this)
      go_wp2_with fail
      go_ret
      exact ⟨rfl, .inr ⟨hno2.out, rfl⟩⟩
theorem cal_big {r : List Rl} {o : List Gp} (h : 16 < r.length ∨ 64 < o.length) : calE r o = 2 := by unfold calE; rw [if_pos h]
theorem gapsB_cons {b : Int} {g : Gp} {l : List Gp} (h : b < g.from_ ∧ g.from_ < g.until_ ∧ g.until_ ≤ 2097152) : gapsB b (g :: l) = gapsB g.until_ l := by
  show (decide _ && _) = _
  rw [decide_eq_true h, Bool.true_and]
theorem gapsB_bad {b : Int} {g : Gp} {l : List Gp} (h : ¬ (b < g.from_ ∧ g.from_ < g.until_ ∧ g.until_ ≤ 2097152)) : gapsB b (g :: l) = false := by
  show (decide _ && _) = _
  rw [decide_eq_false h, Bool.false_and]
def prevU (l : List Gp) : Nat → Int
  | 0 => -1
  | k + 1 => match l[k]? with
    | some g => g.until_
    | none => -1
theorem ra_cal (A B : Option Addr) (c d : Nat) (rules : List Rl) (off : List Gp) (W : World) (hA : Rd W W.heap.size 3 A rules.length (rules.flatMap Rl.cl)) (hB : Rd W W.heap.size 2 B off.length (off.flatMap Gp.cl)) (hn1 : rules.length ≤ 1000000) (hn2 : off.length ≤ 1000000) :
    Calls Tryz.prog 82 #[.slice A rules.length c, .slice B off.length d] W (Ret (.int .i64 (calE rules off)) W) := by
  obtain ⟨v, hv⟩ : ∃ v, Hid (calE rules off = v) := ⟨_, Lib.hid rfl⟩
  rw [hv.out]
  go_enter Tryz.func82, Tryz.ntmps82
  by_cases n1 : 16 < rules.length
  · have hv2 : Hid (v = 2) := Lib.hid (hv.out.symm.trans (cal_big (.inl n1)))
    have e1 : (16 : Int) < (rules.length : Int) := by omega
    clear n1
    go_wp2_with fail
    go_ret
    exact ⟨ret_int hv2.out.symm, bRefl W⟩
  by_cases n2 : 64 < off.length
  · have hv2 : Hid (v = 2) := Lib.hid (hv.out.symm.trans (cal_big (.inr n2)))
    have e1 : ¬ (16 : Int) < (rules.length : Int) := by omega
    have e2 : (64 : Int) < (off.length : Int) := by omega
    clear n1 n2
    go_wp2_with fail
    go_ret
    exact ⟨ret_int hv2.out.symm, bRefl W⟩
  have e1 : ¬ (16 : Int) < (rules.length : Int) := by omega
  have e2 : ¬ (64 : Int) < (off.length : Int) := by omega
  have hbad : Hid (∀ k r, rules[k]? = some r → ruleB r = false → v = 190) := Lib.hid (fun k r h hb => hv.out.symm.trans (rules_bad h hb off (by omega) (by omega)))
  have hgood : Hid ((∀ r ∈ rules, ruleB r = true) → v = if gapsB (-1) off = true then 0 else 190) := Lib.hid (fun h => hv.out.symm.trans (rules_good h off (by omega) (by omega)))
  replace n1 := Lib.hid n1
  replace n2 := Lib.hid n2
  go_wp2_with fail
  clear e1 e2
  go_loopw [5] (fun i wr => ∃ k : Nat, k ≤ rules.length ∧ i = .int .i64 k ∧ Below W.heap.size W wr ∧ Hid (∀ r ∈ rules.take k, ruleB r = true)) (fun i _ => rules.length - (intOf i).toNat)
  case atStart => exact ⟨0, Nat.zero_le _, rfl, bRefl W, Lib.hid (by simp)⟩
  case round =>
    obtain ⟨k, hkn, rfl, hb, hp⟩ := hrel
    by_cases hlt : k < rules.length
    · obtain ⟨x, hx⟩ : ∃ y, Hid (rules[k]? = some y) := ⟨_, Lib.hid (List.getElem?_eq_getElem hlt)⟩
      obtain ⟨b1, o1, rfl, l1, hc⟩ := Cl_at (f := Rl.cl) (fun _ _ => rfl) (hA.below hb) hlt hx.out
      have c0 := hc 0 (by omega)
      have c1 := hc 1 (by omega)
      have c2 := hc 2 (by omega)
      simp only [Rl.cl, List.getElem?_cons_zero, List.getElem?_cons_succ, Nat.add_zero] at c0 c1 c2
      have i0 : (0 : Int) ≤ (k : Int) := by omega
      have i1 : (k : Int) < (rules.length : Int) := by omega
      have BY := Blk.new wr 59 #[.int .i64 x.first, .int .i64 x.until_, .int .i64 x.every] _ rfl
      have d0 := BY.cell 0
      have d1 := BY.cell 1
      have d2 := BY.cell 2
      have hb2 := bAl hb (.cells #[.int .i64 x.first, .int .i64 x.until_, .int .i64 x.every] 59)
      clear hc BY
      by_cases f0 : x.first < 0
      · have hv2 := Lib.hid (hbad.out k x hx.out (ruleB_no (by omega)))
        go_wp2_with fail
        go_ret
        exact ⟨ret_int hv2.out.symm, hb2⟩
      by_cases f1 : x.until_ ≤ x.first
      · have hv2 := Lib.hid (hbad.out k x hx.out (ruleB_no (by omega)))
        go_wp2_with fail
        go_ret
        exact ⟨ret_int hv2.out.symm, hb2⟩
      by_cases f2 : 2097152 < x.until_
      · have hv2 := Lib.hid (hbad.out k x hx.out (ruleB_no (by omega)))
        go_wp2_with fail
        go_ret
        exact ⟨ret_int hv2.out.symm, hb2⟩
      by_cases f3 : x.every < 1
      · have hv2 := Lib.hid (hbad.out k x hx.out (ruleB_no (by omega)))
        go_wp2_with fail
        go_ret
        exact ⟨ret_int hv2.out.symm, hb2⟩
      by_cases f4 : 2097152 < x.every
      · have hv2 := Lib.hid (hbad.out k x hx.out (ruleB_no (by omega)))
        go_wp2_with fail
        go_ret
        exact ⟨ret_int hv2.out.symm, hb2⟩
      have hp2 := Lib.hid (all_on hp.out hx.out (decide_eq_true (by omega) : ruleB x = true))
      go_wp2_with fail
      exact ⟨⟨k + 1, by omega, by go_num, hb2, hp2⟩, by simp [intOf]; omega⟩
    · have hv3 := Lib.hid (hgood.out (by have := hp.out; rwa [List.take_of_length_le (by omega)] at this))
      clear hp hbad hgood
      go_wp2_with fail
      go_loopw [7] (fun i wr => ∃ k : Nat, k ≤ off.length ∧ i = .int .i64 k ∧ Below W.heap.size W wr ∧ Hid (gapsB (-1) off = gapsB (prevU off k) (off.drop k) ∧ -1 ≤ prevU off k)) (fun i _ => off.length - (intOf i).toNat)
      case atStart => exact ⟨0, Nat.zero_le _, rfl, hb, Lib.hid ⟨rfl, by show (-1 : Int) ≤ -1; omega⟩⟩
      case round =>
        clear hb
        obtain ⟨k, hkn, rfl, hb, hp⟩ := hrel
        by_cases hlt : k < off.length
        · obtain ⟨x, hx⟩ : ∃ y, Hid (off[k]? = some y) := ⟨_, Lib.hid (List.getElem?_eq_getElem hlt)⟩
          have hdrop : Hid (off.drop k = x :: off.drop (k + 1)) := Lib.hid (by
            obtain ⟨hk, e⟩ := List.getElem?_eq_some_iff.1 hx.out
            rw [List.drop_eq_getElem_cons hk, e])
          have hnext : Hid (prevU off (k + 1) = x.until_) := Lib.hid (by show (match off[k]? with | some g => g.until_ | none => -1) = _; rw [hx.out])
          obtain ⟨b1, o1, rfl, l1, hc⟩ := Cl_at (f := Gp.cl) (fun _ _ => rfl) (hB.below hb) hlt hx.out
          have c0 := hc 0 (by omega)
          have c1 := hc 1 (by omega)
          simp only [Gp.cl, List.getElem?_cons_zero, List.getElem?_cons_succ, Nat.add_zero] at c0 c1
          clear hc
          have i0 : (0 : Int) ≤ (k : Int) := by omega
          have i1 : (k : Int) < (off.length : Int) := by omega
          have BY := Blk.new wr 61 #[.int .i64 x.from_, .int .i64 x.until_] _ rfl
          have hb2 := bAl hb (.cells #[.int .i64 x.from_, .int .i64 x.until_] 61)
          have hbad2 : Hid (¬ (prevU off k < x.from_ ∧ x.from_ < x.until_ ∧ x.until_ ≤ 2097152) → v = 190) := Lib.hid (fun h => by rw [hv3.out, hp.out.1, hdrop.out, gapsB_bad h]; rfl)
          have hgood2 : Hid ((prevU off k < x.from_ ∧ x.from_ < x.until_ ∧ x.until_ ≤ 2097152) → gapsB (-1) off = gapsB (prevU off (k + 1)) (off.drop (k + 1)) ∧ -1 ≤ prevU off (k + 1)) := Lib.hid (fun h => ⟨by rw [hp.out.1, hdrop.out, gapsB_cons h, hnext.out], by rw [hnext.out]; have := hp.out.2; omega⟩)
          have hm1 := hp.out.2
          have BL2 := BY.lt
          have KS : Hid (∀ w', Below (wr.alloc (.cells #[.int .i64 x.from_, .int .i64 x.until_] 61)).heap.size (wr.alloc (.cells #[.int .i64 x.from_, .int .i64 x.until_] 61)) w' → w'.cell? ⟨wr.heap.size, 0, none⟩ = some (.int .i64 x.from_) ∧ w'.cell? ⟨wr.heap.size, 1, none⟩ = some (.int .i64 x.until_)) := Lib.hid (fun w' h => ⟨(BY.below h BL2).cell 0, (BY.below h BL2).cell 1⟩)
          by_cases f0 : x.from_ < 0
          · have hv4 := Lib.hid (hbad2.out (by omega))
            go_upto_region 13 with fail
            refine wp_region_schB (f := 29) KS [(0, 1), (1, 2), (2, 1), (3, 1), (4, 1), (5, 1), (6, 1), (7, 1), (8, 1), (9, 1), (10, 1), (11, 1), (12, 1), (13, 1), (14, 1), (15, 1), (16, 1), (17, 1), (18, 1), (19, 1), (20, 1), (21, 1), (22, 1), (23, 1), (24, 1), (25, 1), (26, 1), (27, 1), (28, 1), (29, 3)] ?_
            simp only [pickS, List.getElem?_cons_zero, List.getElem?_cons_succ]
            refine wpSched_t ?_
            refine wpSched_r ?_
            refine wpSched_t ?_
            refine wpSched_t ?_
            refine wpSched_p ?_
            refine wpSched_p ?_
            refine wpSched_p ?_
            refine wpSched_p ?_
            refine wpSched_p ?_
            refine wpSched_t ?_
            refine wpSched_t ?_
            refine wpSched_p ?_
            refine wpSched_p ?_
            refine wpSched_p ?_
            refine wpSched_t ?_
            refine wpSched_t ?_
            refine wpSched_p ?_
            refine wpSched_p ?_
            refine wpSched_p ?_
            refine wpSched_p ?_
            refine wpSched_p ?_
            refine wpSched_p ?_
            refine wpSched_p ?_
            refine wpSched_p ?_
            refine wpSched_p ?_
            refine wpSched_p ?_
            refine wpSched_p ?_
            refine wpSched_p ?_
            refine wpSched_p ?_
            refine wpSched_last ?_
            first | simp only [List.map_nil] | simp only [List.map_cons, List.map_nil]
            go_wp2_with fail
            refine NoPanic.normal ?_
            go_wp2_with fail
            go_ret
            exact ⟨ret_int hv4.out.symm, bDr hb2⟩
          by_cases f1 : x.until_ ≤ x.from_
          · have hv4 := Lib.hid (hbad2.out (by omega))
            go_upto_region 13 with fail
            refine wp_region_schB (f := 29) KS [(0, 1), (1, 2), (2, 1), (3, 1), (4, 1), (5, 2), (6, 1), (7, 2), (8, 1), (9, 1), (10, 1), (11, 1), (12, 1), (13, 1), (14, 1), (15, 1), (16, 1), (17, 1), (18, 1), (19, 1), (20, 1), (21, 1), (22, 1), (23, 1), (24, 1), (25, 1), (26, 1), (27, 1), (28, 1), (29, 3)] ?_
            simp only [pickS, List.getElem?_cons_zero, List.getElem?_cons_succ]
            refine wpSched_t ?_
            refine wpSched_r ?_
            refine wpSched_t ?_
            refine wpSched_t ?_
            refine wpSched_t ?_
            refine wpSched_r ?_
            refine wpSched_t ?_
            refine wpSched_r ?_
            refine wpSched_t ?_
            refine wpSched_t ?_
            refine wpSched_t ?_
            refine wpSched_p ?_
            refine wpSched_p ?_
            refine wpSched_p ?_
            refine wpSched_t ?_
            refine wpSched_t ?_
            refine wpSched_p ?_
            refine wpSched_p ?_
            refine wpSched_p ?_
            refine wpSched_p ?_
            refine wpSched_p ?_
            refine wpSched_p ?_
            refine wpSched_p ?_
            refine wpSched_p ?_
            refine wpSched_p ?_
            refine wpSched_p ?_
            refine wpSched_p ?_
            refine wpSched_p ?_
            refine wpSched_p ?_
            refine wpSched_last ?_
            first | simp only [List.map_nil] | simp only [List.map_cons, List.map_nil]
            go_wp2_with fail
            refine NoPanic.normal ?_
            go_wp2_with fail
            go_ret
            exact ⟨ret_int hv4.out.symm, bDr hb2⟩
          by_cases f2 : 2097152 < x.until_
          · have hv4 := Lib.hid (hbad2.out (by omega))
            go_upto_region 13 with fail
            refine wp_region_schB (f := 29) KS [(0, 1), (1, 2), (2, 1), (3, 1), (4, 1), (5, 2), (6, 1), (7, 2), (8, 1), (9, 1), (10, 1), (11, 1), (12, 2), (13, 1), (14, 1), (15, 1), (16, 1), (17, 1), (18, 1), (19, 1), (20, 1), (21, 1), (22, 1), (23, 1), (24, 1), (25, 1), (26, 1), (27, 1), (28, 1), (29, 3)] ?_
            simp only [pickS, List.getElem?_cons_zero, List.getElem?_cons_succ]
            refine wpSched_t ?_
            refine wpSched_r ?_
            refine wpSched_t ?_
            refine wpSched_t ?_
            refine wpSched_t ?_
            refine wpSched_r ?_
            refine wpSched_t ?_
            refine wpSched_r ?_
            refine wpSched_t ?_
            refine wpSched_t ?_
            refine wpSched_t ?_
            refine wpSched_t ?_
            refine wpSched_r ?_
            refine wpSched_t ?_
            refine wpSched_t ?_
            refine wpSched_t ?_
            refine wpSched_p ?_
            refine wpSched_p ?_
            refine wpSched_p ?_
            refine wpSched_p ?_
            refine wpSched_p ?_
            refine wpSched_p ?_
            refine wpSched_p ?_
            refine wpSched_p ?_
            refine wpSched_p ?_
            refine wpSched_p ?_
            refine wpSched_p ?_
            refine wpSched_p ?_
            refine wpSched_p ?_
            refine wpSched_last ?_
            first | simp only [List.map_nil] | simp only [List.map_cons, List.map_nil]
            go_wp2_with fail
            refine NoPanic.normal ?_
            go_wp2_with fail
            go_ret
            exact ⟨ret_int hv4.out.symm, bDr hb2⟩
          obtain _ | k' := k
          · have hP0 : prevU off 0 = -1 := rfl
            simp only [Nat.zero_mul, Nat.add_zero] at c0 c1
            have ci0 := c0
            have ci1 := c1
            simp only [Int.natCast_zero] at i0 i1
            have hnx := Lib.hid (hgood2.out (by rw [hP0]; omega))
            clear hbad2 hgood2 hm1
            go_upto_region 13 with fail
            refine wp_region_schB (f := 29) KS [(0, 1), (1, 2), (2, 1), (3, 1), (4, 1), (5, 2), (6, 1), (7, 2), (8, 1), (9, 1), (10, 1), (11, 1), (12, 2), (13, 1), (14, 1), (15, 1), (16, 1), (17, 1), (18, 1), (19, 1), (20, 1), (21, 1), (22, 1), (23, 1), (24, 1), (25, 1), (26, 1), (27, 1), (28, 1), (29, 3)] ?_
            simp only [pickS, List.getElem?_cons_zero, List.getElem?_cons_succ]
            refine wpSched_t ?_
            refine wpSched_r ?_
            refine wpSched_t ?_
            refine wpSched_t ?_
            refine wpSched_t ?_
            refine wpSched_r ?_
            refine wpSched_t ?_
            refine wpSched_r ?_
            refine wpSched_t ?_
            refine wpSched_t ?_
            refine wpSched_t ?_
            refine wpSched_t ?_
            refine wpSched_r ?_
            refine wpSched_t ?_
            refine wpSched_t ?_
            refine wpSched_t ?_
            refine wpSched_t ?_
            refine wpSched_t ?_
            refine wpSched_t ?_
            refine wpSched_p ?_
            refine wpSched_p ?_
            refine wpSched_p ?_
            refine wpSched_p ?_
            refine wpSched_p ?_
            refine wpSched_p ?_
            refine wpSched_p ?_
            refine wpSched_p ?_
            refine wpSched_p ?_
            refine wpSched_t ?_
            refine wpSched_last ?_
            first | simp only [List.map_nil] | simp only [List.map_cons, List.map_nil]
            go_wp2_with fail
            refine NoPanic.normal ?_
            go_wp2_with fail
            exact ⟨⟨0 + 1, by omega, by go_num, bDr hb2, Lib.hid hnx.out⟩, by simp [intOf]; omega⟩
          · obtain ⟨z, hz⟩ : ∃ y, Hid (off[k']? = some y) := ⟨_, Lib.hid (List.getElem?_eq_getElem (by omega))⟩
            have hPz : prevU off (k' + 1) = z.until_ := by show (match off[k']? with | some g => g.until_ | none => -1) = _; rw [hz.out]
            rw [hPz] at hbad2 hgood2
            obtain ⟨b3, o3, e3, l3, hc3⟩ := Cl_at (f := Gp.cl) (fun _ _ => rfl) (hB.below hb) (show k' < off.length by omega) hz.out
            injection e3 with e3
            injection e3 with e3 e4
            subst e3
            subst e4
            have c3 := hc3 1 (by omega)
            simp only [Gp.cl, List.getElem?_cons_zero, List.getElem?_cons_succ] at c3
            have hbz := hb.size
            have i2 : (0 : Int) ≤ (k' : Int) := by omega
            have i3 : (k' : Int) < (off.length : Int) := by omega
            have i4 : IntKind.i64.wrap (k' : Int) = (k' : Int) := by rw [IntKind.wrap_i64]; omega
            have KT : Hid (∀ w', Below (wr.alloc (.cells #[.int .i64 x.from_, .int .i64 x.until_] 61)).heap.size (wr.alloc (.cells #[.int .i64 x.from_, .int .i64 x.until_] 61)) w' → w'.cell? ⟨wr.heap.size, 0, none⟩ = some (.int .i64 x.from_) ∧ w'.cell? ⟨wr.heap.size, 1, none⟩ = some (.int .i64 x.until_) ∧ w'.cell? ⟨b1, o1 + k' * 2 + 1, none⟩ = some (.int .i64 z.until_)) := Lib.hid (fun w' h => ⟨(KS.out w' h).1, (KS.out w' h).2, (h.cell (p := ⟨b1, o1 + k' * 2 + 1, none⟩) (by show b1 < _; simp; omega)).trans ((World.cell?_alloc_old _ _ _ (by show b1 ≠ _; omega)).trans c3)⟩)
            clear hc3 c3
            by_cases f3 : x.from_ ≤ z.until_
            · have hv4 := Lib.hid (hbad2.out (by omega))
              go_upto_region 13 with fail
              refine wp_region_schB (f := 29) KT [(0, 1), (1, 2), (2, 1), (3, 1), (4, 1), (5, 2), (6, 1), (7, 2), (8, 1), (9, 1), (10, 1), (11, 1), (12, 2), (13, 1), (14, 1), (15, 1), (16, 1), (17, 1), (18, 1), (19, 1), (20, 2), (21, 1), (22, 1), (23, 1), (24, 1), (25, 1), (26, 2), (27, 1), (28, 1), (29, 3)] ?_
              simp only [pickS, List.getElem?_cons_zero, List.getElem?_cons_succ]
              refine wpSched_t ?_
              refine wpSched_r ?_
              refine wpSched_t ?_
              refine wpSched_t ?_
              refine wpSched_t ?_
              refine wpSched_r ?_
              refine wpSched_t ?_
              refine wpSched_r ?_
              refine wpSched_t ?_
              refine wpSched_t ?_
              refine wpSched_t ?_
              refine wpSched_t ?_
              refine wpSched_r ?_
              refine wpSched_t ?_
              refine wpSched_t ?_
              refine wpSched_t ?_
              refine wpSched_t ?_
              refine wpSched_t ?_
              refine wpSched_t ?_
              refine wpSched_t ?_
              refine wpSched_r ?_
              refine wpSched_t ?_
              refine wpSched_t ?_
              refine wpSched_t ?_
              refine wpSched_t ?_
              refine wpSched_t ?_
              refine wpSched_r ?_
              refine wpSched_t ?_
              refine wpSched_t ?_
              refine wpSched_last ?_
              first | simp only [List.map_nil] | simp only [List.map_cons, List.map_nil]
              go_wp2_with fail
              refine NoPanic.normal ?_
              go_wp2_with fail
              go_ret
              exact ⟨ret_int hv4.out.symm, bDr hb2⟩
            have hnx := Lib.hid (hgood2.out (by omega))
            clear hbad2 hgood2 hm1 hPz
            go_upto_region 13 with fail
            refine wp_region_schB (f := 29) KT [(0, 1), (1, 2), (2, 1), (3, 1), (4, 1), (5, 2), (6, 1), (7, 2), (8, 1), (9, 1), (10, 1), (11, 1), (12, 2), (13, 1), (14, 1), (15, 1), (16, 1), (17, 1), (18, 1), (19, 1), (20, 2), (21, 1), (22, 1), (23, 1), (24, 1), (25, 1), (26, 2), (27, 1), (28, 1), (29, 3)] ?_
            simp only [pickS, List.getElem?_cons_zero, List.getElem?_cons_succ]
            refine wpSched_t ?_
            refine wpSched_r ?_
            refine wpSched_t ?_
            refine wpSched_t ?_
            refine wpSched_t ?_
            refine wpSched_r ?_
            refine wpSched_t ?_
            refine wpSched_r ?_
            refine wpSched_t ?_
            refine wpSched_t ?_
            refine wpSched_t ?_
            refine wpSched_t ?_
            refine wpSched_r ?_
            refine wpSched_t ?_
            refine wpSched_t ?_
            refine wpSched_t ?_
            refine wpSched_t ?_
            refine wpSched_t ?_
            refine wpSched_t ?_
            refine wpSched_t ?_
            refine wpSched_r ?_
            refine wpSched_t ?_
            refine wpSched_t ?_
            refine wpSched_t ?_
            refine wpSched_t ?_
            refine wpSched_t ?_
            refine wpSched_r ?_
            refine wpSched_t ?_
            refine wpSched_t ?_
            refine wpSched_last ?_
            first | simp only [List.map_nil] | simp only [List.map_cons, List.map_nil]
            go_wp2_with fail
            refine NoPanic.normal ?_
            go_wp2_with fail
            exact ⟨⟨k' + 1 + 1, by omega, by go_num, bDr hb2, Lib.hid hnx.out⟩, by simp [intOf]; omega⟩
        · have hfin : Hid (v = 0) := Lib.hid (by
            have := hp.out.1
            rw [List.drop_of_length_le (by omega)] at this
            rw [hv3.out, this]
            rfl)
          go_wp2_with fail
          go_ret
          exact ⟨ret_int hfin.out.symm, hb⟩
theorem take_moreR {α : Type} {l : List α} {k : Nat} {x : α} (h : l[k]? = some x) : l.take (k + 1) = l.take k ++ [x] := by
  obtain ⟨hk, rfl⟩ := List.getElem?_eq_some_iff.1 h
  exact List.take_succ_eq_append_getElem hk
theorem right_iff {x : Lin} {n : Int} : x.right n = true ↔ ((2 ≤ x.offs.length ∧ x.offs.length ≤ 9) ∧ x.legs.length + 1 = x.offs.length) ∧ (((1 ≤ x.cls ∧ x.cls ≤ 255) ∧ (1 ≤ x.room ∧ x.room ≤ 64)) ∧ (((∀ o ∈ x.offs, 0 ≤ o ∧ o < n) ∧ x.offs.Nodup) ∧ ∀ g ∈ x.legs, 1 ≤ g ∧ g ≤ 100000)) := by
  unfold Lin.right stopsB btw
  simp only [Bool.and_eq_true, decide_eq_true_eq, List.all_eq_true]
  constructor
  · rintro ⟨⟨⟨h1, h2⟩, h3⟩, ⟨h4, h5⟩, ⟨h6, h7⟩, h8⟩
    exact ⟨⟨⟨by omega, by omega⟩, h3⟩, ⟨h4, h5⟩, ⟨fun o ho => by have := h6 o ho; omega, h7⟩, h8⟩
  · rintro ⟨⟨⟨h1, h2⟩, h3⟩, ⟨h4, h5⟩, ⟨h6, h7⟩, h8⟩
    exact ⟨⟨⟨by omega, by omega⟩, h3⟩, ⟨h4, h5⟩, ⟨fun o ho => by have := h6 o ho; omega, h7⟩, h8⟩
theorem right_not {x : Lin} {n : Int} (h : ¬ (((2 ≤ x.offs.length ∧ x.offs.length ≤ 9) ∧ x.legs.length + 1 = x.offs.length) ∧ (((1 ≤ x.cls ∧ x.cls ≤ 255) ∧ (1 ≤ x.room ∧ x.room ≤ 64)) ∧ (((∀ o ∈ x.offs, 0 ≤ o ∧ o < n) ∧ x.offs.Nodup) ∧ ∀ g ∈ x.legs, 1 ≤ g ∧ g ≤ 100000)))) : x.right n = false := by
  rw [← Bool.not_eq_true]
  exact fun h2 => h (right_iff.1 h2)
theorem ra_right (s : LS) (x : Lin) (n : Int) (W : World) (hA : LinAt W W.heap.size s x) (hcap : x.offs.length ≤ s.c0) (h1 : x.offs.length ≤ 1000000) (h2 : x.legs.length ≤ 1000000) :
    Calls Tryz.prog 81 #[.agg (s.cl x).toArray, .int .i64 n] W (Ret (.bool (x.right n)) W) := by
  obtain ⟨v, hv⟩ : ∃ v, Hid (x.right n = v) := ⟨_, Lib.hid rfl⟩
  rw [hv.out]
  have hbad : Hid (¬ (((2 ≤ x.offs.length ∧ x.offs.length ≤ 9) ∧ x.legs.length + 1 = x.offs.length) ∧ (((1 ≤ x.cls ∧ x.cls ≤ 255) ∧ (1 ≤ x.room ∧ x.room ≤ 64)) ∧ (((∀ o ∈ x.offs, 0 ≤ o ∧ o < n) ∧ x.offs.Nodup) ∧ ∀ g ∈ x.legs, 1 ≤ g ∧ g ≤ 100000))) → v = false) := Lib.hid (fun h => hv.out.symm.trans (right_not h))
  have r0 := hA.r0
  have r1 := hA.r1
  clear hA
  obtain ⟨A0, A1, A2, A3, m0, m1, m2, m3⟩ := s
  unfold LS.cl
  dsimp only at r0 r1 hcap ⊢
  have BX := Blk.new W 56 #[.slice A0 x.offs.length m0, .slice A1 x.legs.length m1, .int .i64 x.cls, .int .i64 x.room, .slice A2 x.rules.length m2, .slice A3 x.off.length m3] _ rfl
  have hb := bAl (bRefl W) (.cells #[.slice A0 x.offs.length m0, .slice A1 x.legs.length m1, .int .i64 x.cls, .int .i64 x.room, .slice A2 x.rules.length m2, .slice A3 x.off.length m3] 56)
  go_enter Tryz.func81, Tryz.ntmps81
  go_upto_region 1 with fail
  generalize W.alloc _ = w1 at *
  have a0 := BX.cell 0
  have a1 := BX.cell 1
  have a2 := BX.cell 2
  have a3 := BX.cell 3
  by_cases f0 : x.offs.length < 2
  · have hv2 := Lib.hid (hbad.out (by omega))
    have g0 : (x.offs.length : Int) < 2 := by omega
    clear f0
    go_wp2_with fail
    go_ret
    exact ⟨ret_bool hv2.out.symm, hb⟩
  have g0 : ¬ (x.offs.length : Int) < 2 := by omega
  by_cases f1 : 9 < x.offs.length
  · have hv2 := Lib.hid (hbad.out (by omega))
    have g1 : (9 : Int) < (x.offs.length : Int) := by omega
    clear f1
    go_wp2_with fail
    go_ret
    exact ⟨ret_bool hv2.out.symm, hb⟩
  have g1 : ¬ (9 : Int) < (x.offs.length : Int) := by omega
  by_cases f2 : x.legs.length + 1 ≠ x.offs.length
  · have hv2 := Lib.hid (hbad.out (by omega))
    have g2 : ((x.legs.length : Int) != (x.offs.length : Int) - 1) = true := by simp only [bne_iff_ne, ne_eq]; omega
    clear f2
    go_wp2_with fail
    go_ret
    exact ⟨ret_bool hv2.out.symm, hb⟩
  have g2 : ((x.legs.length : Int) != (x.offs.length : Int) - 1) = false := by simp only [bne_eq_false_iff_eq]; omega
  by_cases f3 : x.cls < 1
  · have hv2 := Lib.hid (hbad.out (by omega))
    go_wp2_with fail
    go_ret
    exact ⟨ret_bool hv2.out.symm, hb⟩
  by_cases f4 : 255 < x.cls
  · have hv2 := Lib.hid (hbad.out (by omega))
    go_wp2_with fail
    go_ret
    exact ⟨ret_bool hv2.out.symm, hb⟩
  by_cases f5 : x.room < 1
  · have hv2 := Lib.hid (hbad.out (by omega))
    go_wp2_with fail
    go_ret
    exact ⟨ret_bool hv2.out.symm, hb⟩
  by_cases f6 : 64 < x.room
  · have hv2 := Lib.hid (hbad.out (by omega))
    go_wp2_with fail
    go_ret
    exact ⟨ret_bool hv2.out.symm, hb⟩
  have hl9 : x.offs.length ≤ 9 := by omega
  have hl2 : 2 ≤ x.offs.length := by omega
  have hlg : x.legs.length + 1 = x.offs.length := by omega
  clear f0 f1 f2
  replace hlg := Lib.hid hlg
  go_wp2_with fail
  clear a0 a1 a2 a3 g0 g1 g2
  go_loopw [6] (fun i wr => ∃ k : Nat, k ≤ x.offs.length ∧ i = .int .i64 k ∧ Below W.heap.size W wr ∧ Blk wr W.heap.size 56 #[.slice A0 x.offs.length m0, .slice A1 x.legs.length m1, .int .i64 x.cls, .int .i64 x.room, .slice A2 x.rules.length m2, .slice A3 x.off.length m3] ∧ Hid ((∀ o ∈ x.offs.take k, 0 ≤ o ∧ o < n) ∧ (x.offs.take k).Nodup)) (fun i _ => x.offs.length - (intOf i).toNat)
  case atStart => exact ⟨0, Nat.zero_le _, rfl, hb, BX, Lib.hid (by simp)⟩
  case round =>
    clear hb BX
    obtain ⟨k, hkn, rfl, hb, BX, hp⟩ := hrel
    by_cases hlt : k < x.offs.length
    · obtain ⟨o, ho⟩ : ∃ y, Hid (x.offs[k]? = some y) := ⟨_, Lib.hid (List.getElem?_eq_getElem hlt)⟩
      have hom := List.mem_of_getElem? ho.out
      have hbz := hb.size
      obtain ⟨b1, o1, rfl, l1, hc⟩ := (r0.below hb).2 (by omega)
      have ck := hc k _ (ints_at ho.out)
      have i0 : (0 : Int) ≤ (k : Int) := by omega
      have i1 : (k : Int) < (x.offs.length : Int) := by omega
      have i2 : (k : Int) ≤ (m0 : Int) := by omega
      have htk : (x.offs.take k).length = k := by rw [List.length_take]; omega
      have q : Hid (∀ w', Below wr.heap.size wr w' → Calls Tryz.prog 127 #[.slice (some ⟨b1, o1, none⟩) k m0, .int .i64 o] w' (fun e w9 => w9 = w' ∧ ((o ∈ x.offs.take k ∧ ∃ k9 : Nat, k9 < (x.offs.take k).length ∧ e = .returned (.int .i64 (k9 : Nat))) ∨ (¬ o ∈ x.offs.take k ∧ e = .returned (.int .i64 (-1)))))) := Lib.hid (fun w' h => by
        have := ra_index (some ⟨b1, o1, none⟩) m0 (x.offs.take k) o w' ⟨by unfold ints; simp, fun _ => ⟨b1, o1, rfl, by have := h.size; omega, fun j u hu => by
          rw [h.cell (p := ⟨b1, o1 + j, none⟩) (by show b1 < _; omega)]
          refine hc j u ?_
          unfold ints at hu ⊢
          rw [List.getElem?_map, List.getElem?_take] at hu
          rw [List.getElem?_map]
          split at hu
          · exact hu
          · simp at hu⟩⟩ (by omega)
        rw [htk] at this ⊢
        exact this)
      have KS : Hid (∀ w', Below wr.heap.size wr w' → w'.cell? ⟨W.heap.size, 0, none⟩ = some (.slice (some ⟨b1, o1, none⟩) x.offs.length m0) ∧ w'.cell? ⟨b1, o1 + k, none⟩ = some (.int .i64 o)) := Lib.hid (fun w' h => ⟨(BX.below h BX.lt).cell 0, (h.cell (p := ⟨b1, o1 + k, none⟩) (by show b1 < _; omega)).trans ck⟩)
      clear hc ck htk
      by_cases f8 : o < 0
      · have hv2 := Lib.hid (hbad.out (fun h => by have := h.2.2.1.1 o hom; omega))
        go_upto_region 7 with fail
        refine wp_region_schB (f := 27) KS [(0, 1), (1, 2), (2, 1), (3, 1), (4, 2), (5, 1), (6, 1), (7, 1), (8, 1), (9, 1), (10, 1), (11, 1), (12, 1), (13, 1), (14, 1), (15, 1), (16, 1), (17, 1), (18, 1), (19, 1), (20, 1), (21, 1), (22, 1), (23, 1), (24, 1), (25, 1), (26, 1), (27, 3)] ?_
        simp only [pickS, List.getElem?_cons_zero, List.getElem?_cons_succ]
        refine wpSched_t ?_
        refine wpSched_r ?_
        refine wpSched_t ?_
        refine wpSched_t ?_
        refine wpSched_r ?_
        refine wpSched_t ?_
        refine wpSched_t ?_
        refine wpSched_p ?_
        refine wpSched_p ?_
        refine wpSched_p ?_
        refine wpSched_p ?_
        refine wpSched_p ?_
        refine wpSched_p ?_
        refine wpSched_p ?_
        refine wpSched_t ?_
        refine wpSched_t ?_
        refine wpSched_p ?_
        refine wpSched_p ?_
        refine wpSched_p ?_
        refine wpSched_p ?_
        refine wpSched_p ?_
        refine wpSched_p ?_
        refine wpSched_p ?_
        refine wpSched_p ?_
        refine wpSched_p ?_
        refine wpSched_p ?_
        refine wpSched_p ?_
        refine wpSched_last ?_
        first | simp only [List.map_nil] | simp only [List.map_cons, List.map_nil]
        go_wp2_with fail
        refine NoPanic.normal ?_
        go_wp2_with fail
        go_ret
        exact ⟨ret_bool hv2.out.symm, bDr hb⟩
      by_cases f9 : n ≤ o
      · have hv2 := Lib.hid (hbad.out (fun h => by have := h.2.2.1.1 o hom; omega))
        go_upto_region 7 with fail
        refine wp_region_schB (f := 27) KS [(0, 1), (1, 2), (2, 1), (3, 1), (4, 2), (5, 1), (6, 1), (7, 1), (8, 2), (9, 1), (10, 1), (11, 2), (12, 1), (13, 1), (14, 1), (15, 1), (16, 1), (17, 1), (18, 1), (19, 1), (20, 1), (21, 1), (22, 1), (23, 1), (24, 1), (25, 1), (26, 1), (27, 3)] ?_
        simp only [pickS, List.getElem?_cons_zero, List.getElem?_cons_succ]
        refine wpSched_t ?_
        refine wpSched_r ?_
        refine wpSched_t ?_
        refine wpSched_t ?_
        refine wpSched_r ?_
        refine wpSched_t ?_
        refine wpSched_t ?_
        refine wpSched_t ?_
        refine wpSched_r ?_
        refine wpSched_t ?_
        refine wpSched_t ?_
        refine wpSched_r ?_
        refine wpSched_t ?_
        refine wpSched_t ?_
        refine wpSched_t ?_
        refine wpSched_t ?_
        refine wpSched_p ?_
        refine wpSched_p ?_
        refine wpSched_p ?_
        refine wpSched_p ?_
        refine wpSched_p ?_
        refine wpSched_p ?_
        refine wpSched_p ?_
        refine wpSched_p ?_
        refine wpSched_p ?_
        refine wpSched_p ?_
        refine wpSched_p ?_
        refine wpSched_last ?_
        first | simp only [List.map_nil] | simp only [List.map_cons, List.map_nil]
        go_wp2_with fail
        refine NoPanic.normal ?_
        go_wp2_with fail
        go_ret
        exact ⟨ret_bool hv2.out.symm, bDr hb⟩
      by_cases f10 : o ∈ x.offs.take k
      · have hv2 := Lib.hid (hbad.out (fun h => by
          have h9 := h.2.2.1.2
          rw [← List.take_append_drop (k + 1) x.offs, take_moreR ho.out] at h9
          have h10 := (List.nodup_append.1 (List.nodup_append.1 h9).1).2.2 o f10 o (by simp)
          exact h10 rfl))
        have qy : Hid (∀ w', Below wr.heap.size wr w' → Calls Tryz.prog 127 #[.slice (some ⟨b1, o1, none⟩) k m0, .int .i64 o] w' (fun e w9 => w9 = w' ∧ ∃ k9 : Nat, e = .returned (.int .i64 (k9 : Nat)))) := Lib.hid (fun w' h => (q.out w' h).mono (by
          rintro e w9 ⟨h1, ⟨_, k9, _, h2⟩ | ⟨h2, _⟩⟩
          · exact ⟨h1, k9, h2⟩
          · exact absurd f10 h2))
        clear q f10
        go_upto_region 7 with fail
        refine wp_region_schB (f := 27) KS [(0, 1), (1, 2), (2, 1), (3, 1), (4, 2), (5, 1), (6, 1), (7, 1), (8, 2), (9, 1), (10, 1), (11, 2), (12, 1), (13, 1), (14, 1), (15, 1), (16, 1), (17, 2), (18, 1), (19, 1), (20, 1), (21, 2), (22, 1), (23, 1), (24, 2), (25, 0), (26, 1), (27, 3)] ?_
        simp only [pickS, List.getElem?_cons_zero, List.getElem?_cons_succ]
        refine wpSched_t ?_
        refine wpSched_r ?_
        refine wpSched_t ?_
        refine wpSched_t ?_
        refine wpSched_r ?_
        refine wpSched_t ?_
        refine wpSched_t ?_
        refine wpSched_t ?_
        refine wpSched_r ?_
        refine wpSched_t ?_
        refine wpSched_t ?_
        refine wpSched_r ?_
        refine wpSched_t ?_
        refine wpSched_t ?_
        refine wpSched_t ?_
        refine wpSched_t ?_
        refine wpSched_t ?_
        refine wpSched_r ?_
        refine wpSched_t ?_
        refine wpSched_t ?_
        refine wpSched_t ?_
        refine wpSched_r ?_
        refine wpSched_t ?_
        refine wpSched_t ?_
        refine wpSched_r ?_
        refine wpSched_force (fun K hK => ?_)
        go_simp; (first | (go_at_call 127; (with_reducible refine (qy.out _ (bDr (bRefl _))).mono ?_); rintro e w6 ⟨rfl, k9, rfl⟩) | skip)
        refine shut_go hK KS ?_
        clear hK K
        refine wpSched_t ?_
        refine wpSched_last ?_
        first | simp only [List.map_nil] | simp only [List.map_cons, List.map_nil]
        go_wp2_with fail
        refine NoPanic.normal ?_
        go_wp2_with fail
        go_ret
        exact ⟨ret_bool hv2.out.symm, bDr hb⟩
      · have qn : Hid (∀ w', Below wr.heap.size wr w' → Calls Tryz.prog 127 #[.slice (some ⟨b1, o1, none⟩) k m0, .int .i64 o] w' (fun e w9 => w9 = w' ∧ e = .returned (.int .i64 (-1)))) := Lib.hid (fun w' h => (q.out w' h).mono (by
          rintro e w9 ⟨h1, ⟨h2, _⟩ | ⟨_, h2⟩⟩
          · exact absurd h2 f10
          · exact ⟨h1, h2⟩))
        have hp2 : Hid ((∀ o ∈ x.offs.take (k + 1), 0 ≤ o ∧ o < n) ∧ (x.offs.take (k + 1)).Nodup) := Lib.hid (by
          rw [take_moreR ho.out]
          refine ⟨fun z hz => ?_, List.nodup_append.2 ⟨hp.out.2, by simp, fun a ha b hb2 e => ?_⟩⟩
          · rcases List.mem_append.1 hz with hz | hz
            · exact hp.out.1 z hz
            · obtain rfl := List.mem_singleton.1 hz
              exact ⟨by omega, by omega⟩
          · obtain rfl := List.mem_singleton.1 hb2
            subst e
            exact f10 ha)
        clear q f10
        go_upto_region 7 with fail
        refine wp_region_schB (f := 27) KS [(0, 1), (1, 2), (2, 1), (3, 1), (4, 2), (5, 1), (6, 1), (7, 1), (8, 2), (9, 1), (10, 1), (11, 2), (12, 1), (13, 1), (14, 1), (15, 1), (16, 1), (17, 2), (18, 1), (19, 1), (20, 1), (21, 2), (22, 1), (23, 1), (24, 2), (25, 0), (26, 1), (27, 3)] ?_
        simp only [pickS, List.getElem?_cons_zero, List.getElem?_cons_succ]
        refine wpSched_t ?_
        refine wpSched_r ?_
        refine wpSched_t ?_
        refine wpSched_t ?_
        refine wpSched_r ?_
        refine wpSched_t ?_
        refine wpSched_t ?_
        refine wpSched_t ?_
        refine wpSched_r ?_
        refine wpSched_t ?_
        refine wpSched_t ?_
        refine wpSched_r ?_
        refine wpSched_t ?_
        refine wpSched_t ?_
        refine wpSched_t ?_
        refine wpSched_t ?_
        refine wpSched_t ?_
        refine wpSched_r ?_
        refine wpSched_t ?_
        refine wpSched_t ?_
        refine wpSched_t ?_
        refine wpSched_r ?_
        refine wpSched_t ?_
        refine wpSched_t ?_
        refine wpSched_r ?_
        refine wpSched_force (fun K hK => ?_)
        go_simp; (first | (go_at_call 127; (with_reducible refine (qn.out _ (bDr (bRefl _))).mono ?_); rintro e w6 ⟨rfl, rfl⟩) | skip)
        refine shut_go hK KS ?_
        clear hK K
        refine wpSched_t ?_
        refine wpSched_last ?_
        first | simp only [List.map_nil] | simp only [List.map_cons, List.map_nil]
        go_wp2_with fail
        refine NoPanic.normal ?_
        go_wp2_with fail
        exact ⟨⟨k + 1, by omega, by go_num, bDr hb, BX, hp2⟩, by simp [intOf]; omega⟩
    · have hp2 : Hid ((∀ o ∈ x.offs, 0 ≤ o ∧ o < n) ∧ x.offs.Nodup) := Lib.hid (by have := hp.out; rwa [List.take_of_length_le (by omega)] at this)
      clear hp
      go_wp2_with fail
      go_loopw [7] (fun i wr => ∃ k : Nat, k ≤ x.legs.length ∧ i = .int .i64 k ∧ Below W.heap.size W wr ∧ Blk wr W.heap.size 56 #[.slice A0 x.offs.length m0, .slice A1 x.legs.length m1, .int .i64 x.cls, .int .i64 x.room, .slice A2 x.rules.length m2, .slice A3 x.off.length m3] ∧ Hid (∀ g ∈ x.legs.take k, 1 ≤ g ∧ g ≤ 100000)) (fun i _ => x.legs.length - (intOf i).toNat)
      case atStart => exact ⟨0, Nat.zero_le _, rfl, hb, BX, Lib.hid (by simp)⟩
      case round =>
        clear hb BX
        obtain ⟨k, hkn, rfl, hb, BX, hp⟩ := hrel
        by_cases hlt : k < x.legs.length
        · obtain ⟨o, ho⟩ : ∃ y, Hid (x.legs[k]? = some y) := ⟨_, Lib.hid (List.getElem?_eq_getElem hlt)⟩
          have hom := List.mem_of_getElem? ho.out
          obtain ⟨b1, o1, rfl, l1, hc⟩ := (r1.below hb).2 (by omega)
          have ck := hc k _ (ints_at ho.out)
          have a1 := BX.cell 1
          have i0 : (0 : Int) ≤ (k : Int) := by omega
          have i1 : (k : Int) < (x.legs.length : Int) := by omega
          have i2 : (k : Int) < (x.offs.length : Int) - 1 := by have := hlg.out; omega
          clear hc
          by_cases f8 : o < 1
          · have hv2 := Lib.hid (hbad.out (fun h => by have := h.2.2.2 o hom; omega))
            go_wp2_with fail
            go_ret
            exact ⟨ret_bool hv2.out.symm, hb⟩
          by_cases f9 : 100000 < o
          · have hv2 := Lib.hid (hbad.out (fun h => by have := h.2.2.2 o hom; omega))
            go_wp2_with fail
            go_ret
            exact ⟨ret_bool hv2.out.symm, hb⟩
          have hp3 : Hid (∀ g ∈ x.legs.take (k + 1), 1 ≤ g ∧ g ≤ 100000) := Lib.hid (by
            rw [take_moreR ho.out]
            intro z hz
            rcases List.mem_append.1 hz with hz | hz
            · exact hp.out z hz
            · obtain rfl := List.mem_singleton.1 hz
              exact ⟨by omega, by omega⟩)
          go_wp2_with fail
          exact ⟨⟨k + 1, by omega, by go_num, hb, BX, hp3⟩, by simp [intOf]; omega⟩
        · have hp3 : Hid (∀ g ∈ x.legs, 1 ≤ g ∧ g ≤ 100000) := Lib.hid (by have := hp.out; rwa [List.take_of_length_le (by omega)] at this)
          have hfin : Hid (v = true) := Lib.hid (hv.out.symm.trans (right_iff.2 ⟨⟨⟨hl2, hl9⟩, hlg.out⟩, ⟨⟨by omega, by omega⟩, ⟨by omega, by omega⟩⟩, hp2.out, hp3.out⟩))
          have i2 : ¬ (k : Int) < (x.offs.length : Int) - 1 := by have := hlg.out; omega
          go_wp2_with fail
          go_ret
          exact ⟨ret_bool hfin.out.symm, hb⟩
end Go.Proofs.YtmbopkcmbiommaaGreatDoor
