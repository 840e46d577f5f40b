/-
  The reference's Few; walked.
-/
import Derived.Test.YtmbopkcmbiommaaGreatDoorMbi
import Derived.Test.YtmbopkcmbiommaaGreatDoorMbf
namespace Go.Proofs.YtmbopkcmbiommaaGreatDoor
open Go Go.RowKit

theorem few_no {x : Wld} (h : 20 < x.base.length ∨ 20 < x.leg.length ∨ 40 < x.tiers.length ∨ 8 < x.lines.length ∨ 8 < x.orders.length ∨ 40 < x.ents.length ∨ 30 < x.secs.length ∨ 20 < x.faults.length) : fewW x = false := by
  rw [← Bool.not_eq_true]
  intro hf
  unfold fewW at hf
  simp only [Bool.and_eq_true, decide_eq_true_eq] at hf
  obtain ⟨h1, h2, h3, h4, h5, h6, h7, h8, -⟩ := hf
  omega
theorem few_line {x : Wld} {y : Lin} (hy : y ∈ x.lines) (h : 12 < y.offs.length ∨ 12 < y.legs.length ∨ 20 < y.rules.length ∨ 70 < y.off.length) : fewW x = false := by
  rw [← Bool.not_eq_true]
  intro hf
  unfold fewW at hf
  simp only [Bool.and_eq_true, decide_eq_true_eq] at hf
  obtain ⟨-, -, -, -, -, -, -, -, h9, -⟩ := hf
  have h9 := List.all_eq_true.1 h9 y hy
  unfold fewL at h9
  simp only [Bool.and_eq_true, decide_eq_true_eq] at h9
  omega
theorem few_order {x : Wld} {y : Odr} (hy : y ∈ x.orders) (h : 30 < y.ag.length) : fewW x = false := by
  rw [← Bool.not_eq_true]
  intro hf
  unfold fewW at hf
  simp only [Bool.and_eq_true, decide_eq_true_eq] at hf
  obtain ⟨-, -, -, -, -, -, -, -, -, h9⟩ := hf
  have h9 := of_decide_eq_true (List.all_eq_true.1 h9 y hy)
  omega
theorem few_yes {x : Wld} (h1 : ¬ 20 < x.base.length) (h2 : ¬ 20 < x.leg.length) (h3 : ¬ 40 < x.tiers.length) (h4 : ¬ 8 < x.lines.length) (h5 : ¬ 8 < x.orders.length) (h6 : ¬ 40 < x.ents.length) (h7 : ¬ 30 < x.secs.length) (h8 : ¬ 20 < x.faults.length)
    (h9 : ∀ y ∈ x.lines, fewL y = true) (h10 : ∀ y ∈ x.orders, y.ag.length ≤ 30) : fewW x = true := by
  unfold fewW
  simp only [Bool.and_eq_true, decide_eq_true_eq]
  exact ⟨by omega, by omega, by omega, by omega, by omega, by omega, by omega, by omega, List.all_eq_true.2 h9, List.all_eq_true.2 (fun y hy => decide_eq_true (h10 y hy))⟩
set_option maxRecDepth 100000 in
set_option maxHeartbeats 8000000 in
theorem ref_few (s : WS) (x : Wld) (W : World) (hx : WldAt W W.heap.size s x) (hsd : x.seed.length = 32) :
    Calls Tryz.prog 9 #[.agg (s.cl x).toArray] W (Ret (.bool (fewW x)) W) := by
  obtain ⟨v, hv⟩ : ∃ v, Hid (fewW x = v) := ⟨_, Lib.hid rfl⟩
  rw [hv.out]
  have BX := Blk.new W 35 (s.cl x).toArray _ rfl
  have hb := bAl (bRefl W) (.cells (s.cl x).toArray 35)

  have A0 : (s.cl x).toArray[0]? = some _ := ws_at (k := 0) rfl
  have A1 : (s.cl x).toArray[1]? = some _ := ws_at (k := 1) rfl
  have A2 : (s.cl x).toArray[2]? = some _ := ws_at (k := 2) rfl
  have A3 : (s.cl x).toArray[3]? = some _ := ws_at (k := 3) rfl
  have A4 : (s.cl x).toArray[4]? = some _ := ws_at (k := 4) rfl
  have A5 : (s.cl x).toArray[5]? = some _ := ws_at (k := 5) rfl
  have A6 : (s.cl x).toArray[6]? = some _ := ws_at (k := 6) rfl
  have A7 : (s.cl x).toArray[7]? = some _ := ws_at (k := 7) rfl
  have A8 : (s.cl x).toArray[8]? = some _ := ws_at (k := 8) rfl
  have A9 : (s.cl x).toArray[9]? = some _ := ws_at (k := 9) rfl
  have A10 : (s.cl x).toArray[42]? = some _ := ws_last hsd
  obtain ⟨la, la1, la2, la3⟩ := hx.rl
  obtain ⟨va, va1, va2, va3⟩ := hx.ro
  generalize (s.cl x).toArray = X at *
  clear hx
  obtain ⟨al, ab, ag, at_, ao, ae, as_, af, cl_, cb, cg, ct, co, ce, cs, cf⟩ := s
  simp only at A0 A1 A2 A3 A4 A5 A6 A7 A8 A9 A10 la2 va2
  go_enter Tryz.func9, Tryz.ntmps9
  go_upto_region 1 with fail
  generalize W.alloc (.cells X 35) = w1 at *
  have a2 := (BX.cell 2).trans A2
  have a3 := (BX.cell 3).trans A3
  have a4 := (BX.cell 4).trans A4
  have a1 := (BX.cell 1).trans A1
  have a5 := (BX.cell 5).trans A5
  have a7 := (BX.cell 7).trans A7
  have a9 := (BX.cell 9).trans A9
  have a10 := (BX.cell 42).trans A10
  by_cases n0 : 20 < x.base.length
  · have hv2 : Hid (v = false) := Lib.hid (hv.out.symm.trans (few_no (by omega)))
    have e0 : (20 : Int) < (x.base.length : Int) := by omega
    clear n0
    go_wp2_with fail
    go_ret
    exact ⟨ret_bool hv2.out.symm, hb⟩
  have e0 : ¬ (20 : Int) < (x.base.length : Int) := by omega
  replace n0 := Lib.hid n0
  by_cases n1 : 20 < x.leg.length
  · have hv2 : Hid (v = false) := Lib.hid (hv.out.symm.trans (few_no (by omega)))
    have e1 : (20 : Int) < (x.leg.length : Int) := by omega
    clear n1
    go_wp2_with fail
    go_ret
    exact ⟨ret_bool hv2.out.symm, hb⟩
  have e1 : ¬ (20 : Int) < (x.leg.length : Int) := by omega
  replace n1 := Lib.hid n1
  by_cases n2 : 40 < x.tiers.length
  · have hv2 : Hid (v = false) := Lib.hid (hv.out.symm.trans (few_no (by omega)))
    have e2 : (40 : Int) < (x.tiers.length : Int) := by omega
    clear n2
    go_wp2_with fail
    go_ret
    exact ⟨ret_bool hv2.out.symm, hb⟩
  have e2 : ¬ (40 : Int) < (x.tiers.length : Int) := by omega
  replace n2 := Lib.hid n2
  by_cases n3 : 8 < x.lines.length
  · have hv2 : Hid (v = false) := Lib.hid (hv.out.symm.trans (few_no (by omega)))
    have e3 : (8 : Int) < (x.lines.length : Int) := by omega
    clear n3
    go_wp2_with fail
    go_ret
    exact ⟨ret_bool hv2.out.symm, hb⟩
  have e3 : ¬ (8 : Int) < (x.lines.length : Int) := by omega
  replace n3 := Lib.hid n3
  by_cases n4 : 8 < x.orders.length
  · have hv2 : Hid (v = false) := Lib.hid (hv.out.symm.trans (few_no (by omega)))
    have e4 : (8 : Int) < (x.orders.length : Int) := by omega
    clear n4
    go_wp2_with fail
    go_ret
    exact ⟨ret_bool hv2.out.symm, hb⟩
  have e4 : ¬ (8 : Int) < (x.orders.length : Int) := by omega
  replace n4 := Lib.hid n4
  by_cases n5 : 40 < x.ents.length
  · have hv2 : Hid (v = false) := Lib.hid (hv.out.symm.trans (few_no (by omega)))
    have e5 : (40 : Int) < (x.ents.length : Int) := by omega
    clear n5
    go_wp2_with fail
    go_ret
    exact ⟨ret_bool hv2.out.symm, hb⟩
  have e5 : ¬ (40 : Int) < (x.ents.length : Int) := by omega
  replace n5 := Lib.hid n5
  by_cases n6 : 30 < x.secs.length
  · have hv2 : Hid (v = false) := Lib.hid (hv.out.symm.trans (few_no (by omega)))
    have e6 : (30 : Int) < (x.secs.length : Int) := by omega
    clear n6
    go_wp2_with fail
    go_ret
    exact ⟨ret_bool hv2.out.symm, hb⟩
  have e6 : ¬ (30 : Int) < (x.secs.length : Int) := by omega
  replace n6 := Lib.hid n6
  by_cases n7 : 20 < x.faults.length
  · have hv2 : Hid (v = false) := Lib.hid (hv.out.symm.trans (few_no (by omega)))
    have e7 : (20 : Int) < (x.faults.length : Int) := by omega
    clear n7
    go_wp2_with fail
    go_ret
    exact ⟨ret_bool hv2.out.symm, hb⟩
  have e7 : ¬ (20 : Int) < (x.faults.length : Int) := by omega
  replace n7 := Lib.hid n7
  go_wp2_with fail
  clear a2 a3 a4 a5 a7 a9 a10 e0 e1 e2 e3 e4 e5 e6 e7
  go_loopw [3] (fun i wr => ∃ k : Nat, k ≤ x.lines.length ∧ i = .int .i64 k ∧ Below W.heap.size W wr ∧ Blk wr W.heap.size 35 X ∧ Hid (∀ y ∈ x.lines.take k, fewL y = true)) (fun i _ => x.lines.length - (intOf i).toNat)
  case atStart => exact ⟨0, Nat.zero_le _, rfl, hb, BX, Lib.hid (by simp)⟩
  case round =>
    clear hb BX a1
    obtain ⟨k, hkn, rfl, hb, BX, hF⟩ := hrel
    have a1 := (BX.cell 1).trans A1
    have hl8 : x.lines.length ≤ 8 := by have := n3.out; omega
    by_cases hlt : k < x.lines.length
    · obtain ⟨y, hy⟩ : ∃ y, Hid (x.lines[k]? = some y) := ⟨_, Lib.hid (List.getElem?_eq_getElem hlt)⟩
      have hym := List.mem_of_getElem? hy.out
      obtain ⟨⟨p0, p1, p2, p3, m0, m1, m2, m3⟩, eq0, rq0⟩ := la3 k y hy.out
      have zo : (la.zip x.lines)[k]? = some ((⟨p0, p1, p2, p3, m0, m1, m2, m3⟩ : LS), y) := by rw [List.getElem?_zip_eq_some]; exact ⟨eq0, hy.out⟩
      obtain ⟨b1, o1, rfl, l1, hc⟩ := Cl_at (f := fun p : LS × Lin => p.1.cl p.2) (fun _ _ => rfl) (la2.below hb) hlt zo
      have c0 := hc 0 (by omega)
      have c1 := hc 1 (by omega)
      have c2 := hc 2 (by omega)
      have c3 := hc 3 (by omega)
      have c4 := hc 4 (by omega)
      have c5 := hc 5 (by omega)
      simp only [LS.cl, List.getElem?_cons_zero, List.getElem?_cons_succ, Nat.add_zero] at c0 c1 c2 c3 c4 c5
      have i0 : (0 : Int) ≤ (k : Int) := by omega
      have i1 : (k : Int) < (x.lines.length : Int) := by omega
      clear hc eq0 rq0 zo
      have BY := Blk.new wr 56 #[.slice p0 y.offs.length m0, .slice p1 y.legs.length m1, .int .i64 y.cls, .int .i64 y.room, .slice p2 y.rules.length m2, .slice p3 y.off.length m3] _ rfl
      have d0 := BY.cell 0
      have d1 := BY.cell 1
      have d4 := BY.cell 4
      have d5 := BY.cell 5
      have hb2 := bAl hb (.cells #[.slice p0 y.offs.length m0, .slice p1 y.legs.length m1, .int .i64 y.cls, .int .i64 y.room, .slice p2 y.rules.length m2, .slice p3 y.off.length m3] 56)
      have BX2 := BX.alloc (.cells #[.slice p0 y.offs.length m0, .slice p1 y.legs.length m1, .int .i64 y.cls, .int .i64 y.room, .slice p2 y.rules.length m2, .slice p3 y.off.length m3] 56)
      by_cases f0 : 12 < y.offs.length
      · have hv2 : Hid (v = false) := Lib.hid (hv.out.symm.trans (few_line hym (by omega)))
        have g0 : (12 : Int) < (y.offs.length : Int) := by omega
        clear f0
        go_wp2_with fail
        go_ret
        exact ⟨ret_bool hv2.out.symm, hb2⟩
      have g0 : ¬ (12 : Int) < (y.offs.length : Int) := by omega
      replace f0 := Lib.hid f0
      by_cases f1 : 12 < y.legs.length
      · have hv2 : Hid (v = false) := Lib.hid (hv.out.symm.trans (few_line hym (by omega)))
        have g1 : (12 : Int) < (y.legs.length : Int) := by omega
        clear f1
        go_wp2_with fail
        go_ret
        exact ⟨ret_bool hv2.out.symm, hb2⟩
      have g1 : ¬ (12 : Int) < (y.legs.length : Int) := by omega
      replace f1 := Lib.hid f1
      by_cases f2 : 20 < y.rules.length
      · have hv2 : Hid (v = false) := Lib.hid (hv.out.symm.trans (few_line hym (by omega)))
        have g2 : (20 : Int) < (y.rules.length : Int) := by omega
        clear f2
        go_wp2_with fail
        go_ret
        exact ⟨ret_bool hv2.out.symm, hb2⟩
      have g2 : ¬ (20 : Int) < (y.rules.length : Int) := by omega
      replace f2 := Lib.hid f2
      by_cases f3 : 70 < y.off.length
      · have hv2 : Hid (v = false) := Lib.hid (hv.out.symm.trans (few_line hym (by omega)))
        have g3 : (70 : Int) < (y.off.length : Int) := by omega
        clear f3
        go_wp2_with fail
        go_ret
        exact ⟨ret_bool hv2.out.symm, hb2⟩
      have g3 : ¬ (70 : Int) < (y.off.length : Int) := by omega
      replace f3 := Lib.hid f3
      have hF2 : Hid (∀ z ∈ x.lines.take (k + 1), fewL z = true) := Lib.hid (by
        obtain ⟨hk, e⟩ := List.getElem?_eq_some_iff.1 hy.out
        rw [List.take_succ_eq_append_getElem hk, e]
        intro z hz
        rcases List.mem_append.1 hz with hz | hz
        · exact hF.out z hz
        · obtain rfl := List.mem_singleton.1 hz
          have := f0.out
          have := f1.out
          have := f2.out
          have := f3.out
          unfold fewL
          simp only [Bool.and_eq_true, decide_eq_true_eq]
          omega)
      go_wp2_with fail
      exact ⟨⟨k + 1, by omega, by go_num, hb2, BX2, hF2⟩, by simp [intOf]; omega⟩
    · have hF1 : Hid (∀ y ∈ x.lines, fewL y = true) := Lib.hid (by have := hF.out; rwa [List.take_of_length_le (by omega)] at this)
      have a5 := (BX.cell 5).trans A5
      go_wp2_with fail
      go_loopw [5] (fun i wr => ∃ k : Nat, k ≤ x.orders.length ∧ i = .int .i64 k ∧ Below W.heap.size W wr ∧ Blk wr W.heap.size 35 X ∧ Hid (∀ y ∈ x.orders.take k, y.ag.length ≤ 30)) (fun i _ => x.orders.length - (intOf i).toNat)
      case atStart => exact ⟨0, Nat.zero_le _, rfl, hb, BX, Lib.hid (by simp)⟩
      case round =>
        clear hb BX a1 a5
        obtain ⟨k, hkn, rfl, hb, BX, hF⟩ := hrel
        have a5 := (BX.cell 5).trans A5
        have hl8 : x.orders.length ≤ 8 := by have := n4.out; omega
        by_cases hlt : k < x.orders.length
        · obtain ⟨y, hy⟩ : ∃ y, Hid (x.orders[k]? = some y) := ⟨_, Lib.hid (List.getElem?_eq_getElem hlt)⟩
          have hym := List.mem_of_getElem? hy.out
          obtain ⟨Ao, cao, eo, ro⟩ := va3 k y hy.out
          have zo : (x.orders.zip va)[k]? = some (y, Value.slice Ao y.ag.length cao) := by rw [List.getElem?_zip_eq_some]; exact ⟨hy.out, eo⟩
          obtain ⟨b1, o1, rfl, l1, hc⟩ := Cl_at (f := fun p : Odr × Value => p.1.cl p.2) (fun _ _ => rfl) (va2.below hb) hlt zo
          have c8 := hc 8 (by omega)
          simp only [Odr.cl, List.getElem?_cons_zero, List.getElem?_cons_succ] at c8
          have i0 : (0 : Int) ≤ (k : Int) := by omega
          have i1 : (k : Int) < (x.orders.length : Int) := by omega
          clear hc eo ro zo
          by_cases f0 : 30 < y.ag.length
          · have hv2 : Hid (v = false) := Lib.hid (hv.out.symm.trans (few_order hym f0))
            have g0 : (30 : Int) < (y.ag.length : Int) := by omega
            clear f0
            go_wp2_with fail
            go_ret
            exact ⟨ret_bool hv2.out.symm, hb⟩
          · have g0 : ¬ (30 : Int) < (y.ag.length : Int) := by omega
            replace f0 := Lib.hid f0
            have hF2 : Hid (∀ z ∈ x.orders.take (k + 1), z.ag.length ≤ 30) := Lib.hid (by
              obtain ⟨hk, e⟩ := List.getElem?_eq_some_iff.1 hy.out
              rw [List.take_succ_eq_append_getElem hk, e]
              intro z hz
              rcases List.mem_append.1 hz with hz | hz
              · exact hF.out z hz
              · obtain rfl := List.mem_singleton.1 hz
                have := f0.out
                omega)
            go_wp2_with fail
            exact ⟨⟨k + 1, by omega, by go_num, hb, BX, hF2⟩, by simp [intOf]; omega⟩
        · have hv2 : Hid (v = true) := Lib.hid (hv.out.symm.trans (few_yes n0.out n1.out n2.out n3.out n4.out n5.out n6.out n7.out hF1.out (by have := hF.out; rwa [List.take_of_length_le (by omega)] at this)))
          go_wp2_with fail
          go_ret
          exact ⟨ret_bool hv2.out.symm, hb⟩
end Go.Proofs.YtmbopkcmbiommaaGreatDoor
