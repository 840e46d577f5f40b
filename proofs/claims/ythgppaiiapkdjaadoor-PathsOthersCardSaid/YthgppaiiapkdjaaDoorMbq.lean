/-
  The reference's FewJob and Few.
-/
import Derived.Test.YthgppaiiapkdjaaDoorMbl
namespace Go.Proofs.YthgppaiiapkdjaaDoor
open Go.RowKit

def Jb.few (j : Jb) : Bool := fewB j.bare.length && (fewB j.proofs.length && (fewB j.mi.length && (fewB j.mm.length && (fewB j.mo.length && (fewB j.ml.length && fewB j.mr.length)))))
theorem fewB_le {n : Nat} (h : fewB n = true) : n ≤ 80 := by
  unfold fewB at h
  simp at h
  omega

set_option maxRecDepth 100000 in
set_option maxHeartbeats 4000000 in
theorem ref_fewjob (cs : Array Value) (j : Jb) (B : Nat) (W : World) (h : JobAt W B (fun i => cs[i]?) j) : Calls Tryd.prog 9 #[.agg cs] W (Ret (.bool j.few) W) := by
  have B0 := Blk.new W 45 cs _ rfl
  have hb := bAl (bRefl W) (.cells cs 45)
  obtain ⟨v, hv⟩ : ∃ v, v = j.few := ⟨_, rfl⟩
  rw [← hv]
  have Hv := Lib.hid hv
  obtain ⟨A0, c0, h0, -⟩ := h.h0
  obtain ⟨A1, c1, h1, -⟩ := h.h1
  obtain ⟨A2, c2, h2, -⟩ := h.h2
  obtain ⟨A3, c3, h3, -⟩ := h.h3
  obtain ⟨A4, c4, h4, -⟩ := h.h4
  obtain ⟨A5, c5, h5, -⟩ := h.h5
  obtain ⟨A6, c6, h6, -⟩ := h.h6
  have k0 := (B0.cell 0).trans h0
  have k1 := (B0.cell 1).trans h1
  have k2 := (B0.cell 2).trans h2
  have k3 := (B0.cell 3).trans h3
  have k4 := (B0.cell 4).trans h4
  have k5 := (B0.cell 5).trans h5
  have k6 := (B0.cell 6).trans h6
  clear h0 h1 h2 h3 h4 h5 h6 h hv B0
  go_enter Tryd.func9, Tryd.ntmps9
  go_upto_region 1 with fail
  generalize W.alloc (.cells cs 45) = w1 at *
  have q0 := ref_few j.bare.length w1
  cases e0 : fewB j.bare.length
  · have hx : Hid (v = false) := by show _ = _; rw [Hv.out]; unfold Jb.few; simp [e0]
    rw [e0] at q0
    clear e0
    go_wp2_with fail
    (with_reducible refine q0.mono ?_)
    rintro e w' ⟨rfl, rfl⟩
    go_wp2_with fail
    go_ret
    exact ⟨ret_bool hx.out.symm, hb⟩
  rw [e0] at q0
  have q1 := ref_few j.proofs.length w1
  cases e1 : fewB j.proofs.length
  · have hx : Hid (v = false) := by show _ = _; rw [Hv.out]; unfold Jb.few; simp [e1]
    rw [e1] at q1
    clear e0 e1
    go_wp2_with fail
    (with_reducible refine q0.mono ?_)
    rintro e w' ⟨rfl, rfl⟩
    go_wp2_with fail
    (with_reducible refine q1.mono ?_)
    rintro e w' ⟨rfl, rfl⟩
    go_wp2_with fail
    go_ret
    exact ⟨ret_bool hx.out.symm, hb⟩
  rw [e1] at q1
  have q2 := ref_few j.mi.length w1
  cases e2 : fewB j.mi.length
  · have hx : Hid (v = false) := by show _ = _; rw [Hv.out]; unfold Jb.few; simp [e2]
    rw [e2] at q2
    clear e0 e1 e2
    go_wp2_with fail
    (with_reducible refine q0.mono ?_)
    rintro e w' ⟨rfl, rfl⟩
    go_wp2_with fail
    (with_reducible refine q1.mono ?_)
    rintro e w' ⟨rfl, rfl⟩
    go_wp2_with fail
    (with_reducible refine q2.mono ?_)
    rintro e w' ⟨rfl, rfl⟩
    go_wp2_with fail
    go_ret
    exact ⟨ret_bool hx.out.symm, hb⟩
  rw [e2] at q2
  have q3 := ref_few j.mm.length w1
  cases e3 : fewB j.mm.length
  · have hx : Hid (v = false) := by show _ = _; rw [Hv.out]; unfold Jb.few; simp [e3]
    rw [e3] at q3
    clear e0 e1 e2 e3
    go_wp2_with fail
    (with_reducible refine q0.mono ?_)
    rintro e w' ⟨rfl, rfl⟩
    go_wp2_with fail
    (with_reducible refine q1.mono ?_)
    rintro e w' ⟨rfl, rfl⟩
    go_wp2_with fail
    (with_reducible refine q2.mono ?_)
    rintro e w' ⟨rfl, rfl⟩
    go_wp2_with fail
    (with_reducible refine q3.mono ?_)
    rintro e w' ⟨rfl, rfl⟩
    go_wp2_with fail
    go_ret
    exact ⟨ret_bool hx.out.symm, hb⟩
  rw [e3] at q3
  have q4 := ref_few j.mo.length w1
  cases e4 : fewB j.mo.length
  · have hx : Hid (v = false) := by show _ = _; rw [Hv.out]; unfold Jb.few; simp [e4]
    rw [e4] at q4
    clear e0 e1 e2 e3 e4
    go_wp2_with fail
    (with_reducible refine q0.mono ?_)
    rintro e w' ⟨rfl, rfl⟩
    go_wp2_with fail
    (with_reducible refine q1.mono ?_)
    rintro e w' ⟨rfl, rfl⟩
    go_wp2_with fail
    (with_reducible refine q2.mono ?_)
    rintro e w' ⟨rfl, rfl⟩
    go_wp2_with fail
    (with_reducible refine q3.mono ?_)
    rintro e w' ⟨rfl, rfl⟩
    go_wp2_with fail
    (with_reducible refine q4.mono ?_)
    rintro e w' ⟨rfl, rfl⟩
    go_wp2_with fail
    go_ret
    exact ⟨ret_bool hx.out.symm, hb⟩
  rw [e4] at q4
  have q5 := ref_few j.ml.length w1
  cases e5 : fewB j.ml.length
  · have hx : Hid (v = false) := by show _ = _; rw [Hv.out]; unfold Jb.few; simp [e5]
    rw [e5] at q5
    clear e0 e1 e2 e3 e4 e5
    go_wp2_with fail
    (with_reducible refine q0.mono ?_)
    rintro e w' ⟨rfl, rfl⟩
    go_wp2_with fail
    (with_reducible refine q1.mono ?_)
    rintro e w' ⟨rfl, rfl⟩
    go_wp2_with fail
    (with_reducible refine q2.mono ?_)
    rintro e w' ⟨rfl, rfl⟩
    go_wp2_with fail
    (with_reducible refine q3.mono ?_)
    rintro e w' ⟨rfl, rfl⟩
    go_wp2_with fail
    (with_reducible refine q4.mono ?_)
    rintro e w' ⟨rfl, rfl⟩
    go_wp2_with fail
    (with_reducible refine q5.mono ?_)
    rintro e w' ⟨rfl, rfl⟩
    go_wp2_with fail
    go_ret
    exact ⟨ret_bool hx.out.symm, hb⟩
  rw [e5] at q5
  have q6 := ref_few j.mr.length w1
  cases e6 : fewB j.mr.length
  · have hx : Hid (v = false) := by show _ = _; rw [Hv.out]; unfold Jb.few; simp [e6]
    rw [e6] at q6
    clear e0 e1 e2 e3 e4 e5 e6
    go_wp2_with fail
    (with_reducible refine q0.mono ?_)
    rintro e w' ⟨rfl, rfl⟩
    go_wp2_with fail
    (with_reducible refine q1.mono ?_)
    rintro e w' ⟨rfl, rfl⟩
    go_wp2_with fail
    (with_reducible refine q2.mono ?_)
    rintro e w' ⟨rfl, rfl⟩
    go_wp2_with fail
    (with_reducible refine q3.mono ?_)
    rintro e w' ⟨rfl, rfl⟩
    go_wp2_with fail
    (with_reducible refine q4.mono ?_)
    rintro e w' ⟨rfl, rfl⟩
    go_wp2_with fail
    (with_reducible refine q5.mono ?_)
    rintro e w' ⟨rfl, rfl⟩
    go_wp2_with fail
    (with_reducible refine q6.mono ?_)
    rintro e w' ⟨rfl, rfl⟩
    go_wp2_with fail
    go_ret
    exact ⟨ret_bool hx.out.symm, hb⟩
  rw [e6] at q6
  have hx : Hid (v = true) := by show _ = _; rw [Hv.out]; unfold Jb.few; simp [e0, e1, e2, e3, e4, e5, e6]
  clear e0 e1 e2 e3 e4 e5 e6
  go_wp2_with fail
  (with_reducible refine q0.mono ?_)
  rintro e w' ⟨rfl, rfl⟩
  go_wp2_with fail
  (with_reducible refine q1.mono ?_)
  rintro e w' ⟨rfl, rfl⟩
  go_wp2_with fail
  (with_reducible refine q2.mono ?_)
  rintro e w' ⟨rfl, rfl⟩
  go_wp2_with fail
  (with_reducible refine q3.mono ?_)
  rintro e w' ⟨rfl, rfl⟩
  go_wp2_with fail
  (with_reducible refine q4.mono ?_)
  rintro e w' ⟨rfl, rfl⟩
  go_wp2_with fail
  (with_reducible refine q5.mono ?_)
  rintro e w' ⟨rfl, rfl⟩
  go_wp2_with fail
  (with_reducible refine q6.mono ?_)
  rintro e w' ⟨rfl, rfl⟩
  go_wp2_with fail
  go_ret
  exact ⟨ret_bool hx.out.symm, hb⟩

def Cs.few (c : Cs) : Bool := (decide (c.keys.length ≤ 4) || decide (9 < c.keys.length)) && (decide (c.keys.length ≤ 12) && (decide (c.jobs.length ≤ 12) && (decide (c.steps.length ≤ 12) && (fewB c.first.length && c.jobs.all Jb.few))))
theorem few_le {c : Cs} (h : c.few = true) : c.keys.length ≤ 12 ∧ c.jobs.length ≤ 12 ∧ c.steps.length ≤ 12 ∧ c.first.length ≤ 80 := by
  unfold Cs.few at h
  simp only [Bool.and_eq_true, decide_eq_true_eq] at h
  exact ⟨h.2.1, h.2.2.1, h.2.2.2.1, fewB_le h.2.2.2.2.1⟩

set_option maxRecDepth 100000 in
set_option maxHeartbeats 4000000 in
theorem ref_fewcase (cs : Array Value) (jcs : List (Array Value)) (c : Cs) (W : World) (h : CaseAt W W.heap.size cs jcs c) : Calls Tryd.prog 8 #[.agg cs] W (Ret (.bool c.few) W) := by
  have B0 := Blk.new W 33 cs _ rfl
  have hb := bAl (bRefl W) (.cells cs 33)
  obtain ⟨v, hv⟩ : ∃ v, v = c.few := ⟨_, rfl⟩
  rw [← hv]
  have Hv := Lib.hid hv
  obtain ⟨A3, c3, h3, -⟩ := h.first
  obtain ⟨A4, c4, h4, -⟩ := h.keys
  obtain ⟨A5, c5, h5, hJ⟩ := h.jobs
  obtain ⟨A13, c13, h13, -⟩ := h.steps
  have k3 := (B0.cell 3).trans h3
  have k4 := (B0.cell 4).trans h4
  have k5 := (B0.cell 5).trans h5
  have k13 := (B0.cell 13).trans h13
  clear hv
  go_enter Tryd.func8, Tryd.ntmps8
  go_upto_region 1 with fail
  generalize W.alloc (.cells cs 33) = w1 at *
  have q := ref_few c.first.length w1
  by_cases g1 : c.keys.length ≤ 4 ∨ 9 < c.keys.length
  case neg =>
    have hx : Hid (v = false) := by show _ = _; rw [Hv.out]; unfold Cs.few; rw [decide_eq_false (fun hh => g1 (.inl hh)), decide_eq_false (fun hh => g1 (.inr hh))]; rfl
    have f1 : (4 : Int) < (c.keys.length : Int) := by omega
    have f2 : (c.keys.length : Int) ≤ 9 := by omega
    clear g1
    go_wp2_with fail
    go_ret
    exact ⟨ret_bool hx.out.symm, hb⟩
  case pos =>
    have hg1 : Hid ((decide (c.keys.length ≤ 4) || decide (9 < c.keys.length)) = true) := by show _ = _; rcases g1 with g | g <;> simp [g]
    by_cases g2 : c.keys.length ≤ 12
    case neg =>
      have hx : Hid (v = false) := by show _ = _; rw [Hv.out]; unfold Cs.few; rw [decide_eq_false g2]; simp
      have f1 : (4 : Int) < (c.keys.length : Int) := by omega
      have f2 : ¬ (c.keys.length : Int) ≤ 9 := by omega
      have f3 : (12 : Int) < (c.keys.length : Int) := by omega
      clear g1 g2
      go_wp2_with fail
      go_ret
      exact ⟨ret_bool hx.out.symm, hb⟩
    by_cases g3 : c.jobs.length ≤ 12
    case neg =>
      have hx : Hid (v = false) := by show _ = _; rw [Hv.out]; unfold Cs.few; rw [decide_eq_false g3]; simp
      have f4 : (12 : Int) < (c.jobs.length : Int) := by omega
      have f3 : ¬ (12 : Int) < (c.keys.length : Int) := by omega
      rcases g1 with g | g
      all_goals
        first | have f1 : ¬ (4 : Int) < (c.keys.length : Int) := by omega | have f1 : (4 : Int) < (c.keys.length : Int) ∧ ¬ (c.keys.length : Int) ≤ 9 := by omega
        go_wp2_with fail
        go_ret
        exact ⟨ret_bool hx.out.symm, hb⟩
    by_cases g4 : c.steps.length ≤ 12
    case neg =>
      have hx : Hid (v = false) := by show _ = _; rw [Hv.out]; unfold Cs.few; rw [decide_eq_false g4]; simp
      have f5 : (12 : Int) < (c.steps.length : Int) := by omega
      have f4 : ¬ (12 : Int) < (c.jobs.length : Int) := by omega
      have f3 : ¬ (12 : Int) < (c.keys.length : Int) := by omega
      rcases g1 with g | g
      all_goals
        first | have f1 : ¬ (4 : Int) < (c.keys.length : Int) := by omega | have f1 : (4 : Int) < (c.keys.length : Int) ∧ ¬ (c.keys.length : Int) ≤ 9 := by omega
        go_wp2_with fail
        go_ret
        exact ⟨ret_bool hx.out.symm, hb⟩
    have Hw : Hid (v = (fewB c.first.length && c.jobs.all Jb.few)) := by
      show _ = _
      rw [Hv.out]; unfold Cs.few
      rw [hg1.out, decide_eq_true g2, decide_eq_true g3, decide_eq_true g4]; rfl
    have f5 : ¬ (12 : Int) < (c.steps.length : Int) := by omega
    have f4 : ¬ (12 : Int) < (c.jobs.length : Int) := by omega
    have f3 : ¬ (12 : Int) < (c.keys.length : Int) := by omega
    rcases g1 with g | g
    all_goals
      first | have f1 : ¬ (4 : Int) < (c.keys.length : Int) := by omega | have f1 : (4 : Int) < (c.keys.length : Int) ∧ ¬ (c.keys.length : Int) ≤ 9 := by omega
      cases e1 : fewB c.first.length
      · have hx : Hid (v = false) := by show _ = _; rw [Hw.out, e1]; rfl
        rw [e1] at q
        clear e1 Hw
        go_wp2_with fail
        (with_reducible refine q.mono ?_)
        rintro e w' ⟨rfl, rfl⟩
        go_wp2_with fail
        go_ret
        exact ⟨ret_bool hx.out.symm, hb⟩
      · have Hx : Hid (v = c.jobs.all Jb.few) := by show _ = _; rw [Hw.out, e1]; rfl
        rw [e1] at q
        clear e1 Hw
        go_wp2_with fail
        (with_reducible refine q.mono ?_)
        rintro e w' ⟨rfl, rfl⟩
        go_wp2_with fail
        clear k3 k4 k5 k13 q
        go_loopw [3] (fun i wr => ∃ k : Nat, k ≤ c.jobs.length ∧ i = .int .i64 k ∧ Below W.heap.size W wr ∧ Blk wr W.heap.size 33 cs ∧ Hid (∀ y ∈ c.jobs.take k, y.few = true)) (fun i _ => c.jobs.length - (intOf i).toNat)
        case atStart => exact ⟨0, Nat.zero_le _, rfl, hb, B0, Lib.hid (by simp)⟩
        case round =>
          clear B0 hb f1
          obtain ⟨k, hkn, rfl, hb, B0, hp⟩ := hrel
          have k5 := (B0.cell 5).trans h5
          by_cases hlt : k < c.jobs.length
          · obtain ⟨jc, hjc⟩ : ∃ jc, Hid (jcs[k]? = some jc) := ⟨_, Lib.hid (List.getElem?_eq_getElem (by rw [h.jlen]; exact hlt))⟩
            obtain ⟨y, hy⟩ : ∃ y, Hid (c.jobs[k]? = some y) := ⟨_, Lib.hid (List.getElem?_eq_getElem hlt)⟩
            have hyj : c.jobAt k = y := by unfold Cs.jobAt; rw [List.getD_eq_getElem?_getD, hy.out]; rfl
            obtain ⟨a1, a2, a3, a4⟩ := h.job k jc hjc.out
            rw [hyj] at a3
            obtain ⟨bj, offj, hA5, hbj, hcj⟩ := hJ.2 (by omega)
            rw [hA5] at k5
            clear hA5
            have hrange : wr.rangeAt bj (offj + k * 49) jc.toList := fun j u hj => by
              rw [Nat.add_assoc, hb.cell (p := ⟨bj, offj + (k * 49 + j), none⟩) hbj]
              refine hcj _ _ ?_
              have hj49 : j < 49 := by have := (List.getElem?_eq_some_iff.1 hj).1; simpa [a1] using this
              rw [flat_mem jcs k j jc (fun z hz => by obtain ⟨i, hi⟩ := List.getElem?_of_mem hz; simpa using (h.job i z hi).1) hjc.out hj49]
              exact hj
            have q := ref_fewjob jc y W.heap.size wr (a3.below hb)
            have i0 : (0 : Int) ≤ (k : Int) := by omega
            have i1 : (k : Int) < (c.jobs.length : Int) := by omega
            cases hf : y.few
            · have hx : Hid (v = false) := by
                show _ = _
                rw [Hx.out]
                exact List.all_eq_false.2 ⟨y, List.mem_of_getElem? hy.out, by rw [hf]; simp⟩
              rw [hf] at q
              clear hf
              go_upto_region 6 with fail
              apply wp_region_lit
              iterate 12 go_step
              refine wpList_load_mid rfl 45 (.tmp 50) rfl bj (offj + k * 49) rfl jc.toList _ hrange Tryd.underlying45 rfl (by rw [Array.length_toList, a1]; exact job_info) ?_
              rw [Array.toArray_toList]
              clear hrange hcj
              go_wp2_with fail
              (with_reducible refine q.mono ?_)
              rintro e w' ⟨rfl, b'⟩
              go_wp2_with fail
              go_ret
              exact ⟨ret_bool hx.out.symm, bCall hb b'⟩
            · have hp' : Hid (∀ z ∈ c.jobs.take (k + 1), z.few = true) := by
                intro z hz
                obtain ⟨hk, rfl⟩ := List.getElem?_eq_some_iff.1 hy.out
                rw [List.take_succ_eq_append_getElem hk] at hz
                rcases List.mem_append.1 hz with hz | hz
                · exact hp.out z hz
                · obtain rfl : z = c.jobs[k] := by simpa using hz
                  exact hf
              rw [hf] at q
              clear hf
              go_upto_region 6 with fail
              apply wp_region_lit
              iterate 12 go_step
              refine wpList_load_mid rfl 45 (.tmp 50) rfl bj (offj + k * 49) rfl jc.toList _ hrange Tryd.underlying45 rfl (by rw [Array.length_toList, a1]; exact job_info) ?_
              rw [Array.toArray_toList]
              clear hrange hcj
              go_wp2_with fail
              (with_reducible refine q.mono ?_)
              rintro e w' ⟨rfl, b'⟩
              go_wp2_with fail
              exact ⟨⟨k + 1, by omega, by go_num, bCall hb b', B0.below b' B0.lt, hp'⟩, by simp [intOf]; omega⟩
          · have hx : Hid (v = true) := by
              show _ = _
              rw [Hx.out]
              exact List.all_eq_true.2 (by have := hp.out; rw [List.take_of_length_le (by omega)] at this; exact this)
            go_wp2_with fail
            go_ret
            exact ⟨ret_bool hx.out.symm, hb⟩
end Go.Proofs.YthgppaiiapkdjaaDoor
