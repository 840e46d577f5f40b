/-
  frankinglaw55.PathsLater, walked.
-/
import Derived.Test.YthgppaiiapkdjaaDoorMbq
import Derived.Test.YthgppaiiapkdjaaDoorMbm
import Derived.Test.YthgppaiiapkdjaaDoorMbg
namespace Go.Proofs.YthgppaiiapkdjaaDoor
open Go.RowKit

theorem chk_parts {c : Cs} : ∃ a b e, c.check = (a, b, e) := ⟨c.check.1, c.check.2.1, c.check.2.2, rfl⟩
/-- The jobs behind a leg, one after the other. -/
def jobsUp (jcs : List (Array Value)) (jc : Array Value) (l i : Nat) : List (Array Value) := jcs.mapIdx fun k x => if k ≤ l ∨ i ≤ k then x else jc
theorem jobsUp_length {jcs : List (Array Value)} {jc : Array Value} {l i : Nat} : (jobsUp jcs jc l i).length = jcs.length := by simp [jobsUp]
theorem jobsUp_start {jcs : List (Array Value)} {jc : Array Value} {l : Nat} : jobsUp jcs jc l (l + 1) = jcs := by
  apply List.ext_getElem?
  intro k
  unfold jobsUp
  rw [List.getElem?_mapIdx]
  cases jcs[k]? with
  | none => rfl
  | some x => show some (if k ≤ l ∨ l + 1 ≤ k then x else jc) = some x; rw [if_pos (by omega)]
theorem jobsUp_next {jcs : List (Array Value)} {jc : Array Value} {l i : Nat} (hl : l < i) : (jobsUp jcs jc l i).set i jc = jobsUp jcs jc l (i + 1) := by
  apply List.ext_getElem?
  intro k
  unfold jobsUp
  rw [List.getElem?_set, List.getElem?_mapIdx, List.getElem?_mapIdx, List.length_mapIdx]
  by_cases hk : i = k
  · subst hk
    rw [if_pos rfl]
    by_cases hi : i < jcs.length
    · rw [if_pos hi, List.getElem?_eq_getElem hi]
      show _ = some (if i ≤ l ∨ i + 1 ≤ i then _ else jc)
      rw [if_neg (by omega)]
    · rw [if_neg hi, List.getElem?_eq_none (by omega)]; rfl
  · rw [if_neg hk]
    cases jcs[k]? with
    | none => rfl
    | some x =>
      show some (if k ≤ l ∨ i ≤ k then x else jc) = some (if k ≤ l ∨ i + 1 ≤ k then x else jc)
      by_cases h : k ≤ l ∨ i ≤ k
      · rw [if_pos h, if_pos (by omega)]
      · rw [if_neg h, if_neg (by omega)]
theorem jobsUp_end {jcs : List (Array Value)} {jc : Array Value} {l i : Nat} (hi : jcs.length ≤ i) (k : Nat) (x : Array Value) (h : (jobsUp jcs jc l i)[k]? = some x) : (k ≤ l ∧ jcs[k]? = some x) ∨ (l < k ∧ x = jc) := by
  unfold jobsUp at h
  rw [List.getElem?_mapIdx] at h
  cases hk : jcs[k]? with
  | none => rw [hk] at h; cases h
  | some y =>
    rw [hk] at h
    have hlt := (List.getElem?_eq_some_iff.1 hk).1
    have h2 : (if k ≤ l ∨ i ≤ k then y else jc) = x := Option.some.inj h
    by_cases hkl : k ≤ l
    · rw [if_pos (.inl hkl)] at h2
      exact .inl ⟨hkl, by rw [h2]⟩
    · rw [if_neg (by omega)] at h2
      exact .inr ⟨by omega, h2.symm⟩

set_option maxRecDepth 100000 in
set_option maxHeartbeats 8000000 in
theorem lw_later (hS : SaneOk) (hP : CheckOk) (cs : Array Value) (jcs : List (Array Value)) (c : Cs) (jc : Array Value) (j : Jb) (time : Int) (W : World) (hG : ShaG W) (h : CaseAt W W.heap.size cs jcs c) (hj : JobIn' W W.heap.size jc j) :
    Calls Tryd.prog 3 #[.agg cs, .agg jc, .int .i64 time] W (Ret (.bool true) W) := by
  have BC := (Blk.new W 33 cs _ rfl).alloc (.cells jc 45)
  have BJ := Blk.new (W.alloc (.cells cs 33)) 45 jc (W.heap.size + 1) (by simp)
  have hb := bAl (bAl (bRefl W) (.cells cs 33)) (.cells jc 45)
  go_enter Tryd.func3, Tryd.ntmps3
  go_upto_region 1 with fail
  generalize (W.alloc (.cells cs 33)).alloc (.cells jc 45) = w1 at *
  have q := hS w1 (hG.below hb)
  go_wp2_with fail
  (with_reducible refine q.mono ?_)
  rintro e w2 ⟨rfl, b2⟩
  clear q
  have BC2 := BC.below b2 BC.lt
  have BJ2 := BJ.below b2 BJ.lt
  have hb2 := bCall hb b2
  clear BC BJ hb b2
  have C2 := (h.below hb2).more hb2.size
  obtain ⟨js49, jone, jat, jsm⟩ := hj
  have J2 := (jat.below hb2).more hb2.size
  have LC := load_case BC2 h.size
  have qf := ref_fewcase cs jcs c w2 C2
  go_upto_region 3 with fail
  apply wp_region_lit
  refine wpList_loadG (by rfl) (by rfl) (by rfl) LC ?_
  simp only [Act.put, List.setIfInBounds_toArray, List.set_cons_zero, List.set_cons_succ]
  cases hf : c.few
  · rw [hf] at qf
    clear hf LC
    go_wp2_with fail
    (with_reducible refine qf.mono ?_)
    rintro e w3 ⟨rfl, b3⟩
    go_wp2_with fail
    go_ret
    exact ⟨rfl, bCall hb2 b3⟩
  rw [hf] at qf
  have hfl := few_le hf
  have Hf := Lib.hid hf
  clear hf LC
  have qj := fun (w : World) (hw : Below w2.heap.size w2 w) => ref_fewjob jc j w2.heap.size w (J2.below hw)
  go_wp2_with fail
  (with_reducible refine qf.mono ?_)
  rintro e w3 ⟨rfl, b3⟩
  have BC3 := BC2.below b3 BC2.lt
  have BJ3 := BJ2.below b3 BJ2.lt
  have hb3 := bCall hb2 b3
  have LJ := load_job BJ3 js49
  have q2 := qj w3 b3
  clear qf qj BC2 BJ2 
  dsimp only
  (refine ‹∀ (a : Act) (w : World), wpList _ _ _ _ a w → _› _ _ ?_)
  iterate 6 go_step
  refine wpList_loadG (by rfl) (by rfl) (by rfl) LJ ?_
  simp only [Act.put, List.setIfInBounds_toArray, List.set_cons_zero, List.set_cons_succ]
  cases hjf : j.few
  · rw [hjf] at q2
    clear hjf LJ
    go_wp2_with fail
    (with_reducible refine q2.mono ?_)
    rintro e w4 ⟨rfl, b4⟩
    go_wp2_with fail
    go_ret
    exact ⟨rfl, bCall hb3 b4⟩
  rw [hjf] at q2
  clear hjf LJ
  go_wp2_with fail
  (with_reducible refine q2.mono ?_)
  rintro e w4 ⟨rfl, b4⟩
  have BC4 := BC3.below b4 BC3.lt
  have BJ4 := BJ3.below b4 BJ3.lt
  have hb4 := bCall hb3 b4
  have LJ := load_job BJ4 js49
  clear BC3 BJ3 hb3 b3 b4 q2
  have q3 := ref_empty jc j.emptyB w4 (jat.lens3 jsm)
  dsimp only
  (refine ‹∀ (a : Act) (w : World), wpList _ _ _ _ a w → _› _ _ ?_)
  iterate 8 go_step
  refine wpList_loadG (by rfl) (by rfl) (by rfl) LJ ?_
  simp only [Act.put, List.setIfInBounds_toArray, List.set_cons_zero, List.set_cons_succ]
  cases hem : j.emptyB
  case true =>
    rw [hem] at q3
    clear hem LJ
    go_wp2_with fail
    (with_reducible refine q3.mono ?_)
    rintro e w5 ⟨rfl, b5⟩
    go_wp2_with fail
    go_ret
    exact ⟨rfl, bCall hb4 b5⟩
  rw [hem] at q3
  have Hem := Lib.hid hem
  clear hem LJ
  go_wp2_with fail
  (with_reducible refine q3.mono ?_)
  rintro e w5 ⟨rfl, b5⟩
  have BC5 := BC4.below b5 BC4.lt
  have BJ5 := BJ4.below b5 BJ4.lt
  have hb5 := bCall hb4 b5
  clear BC4 BJ4 hb4 b5 q3 C2 J2
  have C5 := (h.below hb5).more hb5.size
  have LC := load_case BC5 h.size
  obtain ⟨a, b, e, hce⟩ := chk_parts (c := c)
  have Hce := Lib.hid hce
  have q4 := hP.of C5 (hG.below hb5) hce
  clear hce
  go_upto_region 5 with fail
  apply wp_region_lit
  refine wpList_loadG (by rfl) (by rfl) (by rfl) LC ?_
  simp only [Act.put, List.setIfInBounds_toArray, List.set_cons_zero, List.set_cons_succ]
  clear LC
  go_wp2_with fail
  (with_reducible refine q4.mono ?_)
  rintro e' w6 ⟨rfl, b6⟩
  have BC6 := BC5.below b6 BC5.lt
  have BJ6 := BJ5.below b6 BJ5.lt
  have hb6 := bCall hb5 b6
  clear BC5 BJ5 hb5 b6 q4 C5
  by_cases he : e = 0
  case neg =>
    have t : (e == 0) = false := by rw [beq_eq_false_iff_ne]; exact he
    go_wp2_with fail
    go_ret
    exact ⟨rfl, hb6⟩
  subst he
  by_cases hw0 : b = 0
  case pos =>
    subst hw0
    go_wp2_with fail
    go_ret
    exact ⟨rfl, hb6⟩
  have t : (b == 0) = false := by rw [beq_eq_false_iff_ne]; exact hw0
  obtain ⟨l, hl1, hl2⟩ := check_leg (c := c) (by rw [Hce.out]) (by rw [Hce.out]; exact hw0)
  rw [Hce.out] at hl1
  have hl1' : a = l := hl1
  subst hl1'
  clear hl1
  obtain ⟨AJ, cj, k5, hR0⟩ := h.jobs
  have y5 : w6.cell? ⟨W.heap.size, 5, none⟩ = some (.slice AJ c.jobs.length cj) := (BC6.cell 5).trans k5
  have i0 : ¬ (l : Int) < 0 := by omega
  have i1 : (l : Int) < (c.jobs.length : Int) := by omega
  go_upto_region 10 with fail
  apply wp_region_lit
  have LC := load_case BC6 h.size
  refine wpList_loadG (by rfl) (by rfl) (by rfl) LC ?_
  simp only [Act.put, List.setIfInBounds_toArray, List.set_cons_zero, List.set_cons_succ]
  iterate 3 go_step
  refine wpList_storeG (by rfl) (by rfl) (by rfl) (by rfl) (store_newW (by rw [h.size]; exact case_info') (by rw [h.size]; rfl) h.one) ?_
  simp only [Act.put]
  have BX := Blk.new w6 33 cs _ rfl
  have BC7 := BC6.alloc (.cells cs 33)
  have BJ7 := BJ6.alloc (.cells cs 33)
  have hb7 := bAl hb6 (.cells cs 33)
  have hx : W.heap.size + 1 < w6.heap.size := BJ6.lt
  clear BC6 BJ6 hb6 LC y5
  generalize w6.alloc (.cells cs 33) = w7 at *
  generalize w6.heap.size = xb at *
  obtain ⟨v14, h14⟩ : ∃ v, cs[14]? = some v := ⟨_, Array.getElem?_eq_getElem (by rw [h.size]; omega)⟩
  have x14 : w7.cell? ⟨xb, 14, none⟩ = some v14 := (BX.cell 14).trans h14
  have z14 := BX.frozen 14
  have hone : ∀ u ∈ jcs.flatMap Array.toList, u.oneCell' = true := fun u hu => by
    obtain ⟨x, hx, hu⟩ := List.mem_flatMap.1 hu
    obtain ⟨i, hi⟩ := List.getElem?_of_mem hx
    exact (h.job i x hi).2.1 u hu
  go_upto_region 12 with fail
  have BX8 := BX.set_ 14 (.int .i64 time)
  have BC8 := BC7.far (p := ⟨xb, 14, none⟩) (by show W.heap.size ≠ xb; omega) (.int .i64 time)
  have BJ8 := BJ7.far (p := ⟨xb, 14, none⟩) (by show W.heap.size + 1 ≠ xb; omega) (.int .i64 time)
  have hb8 := bSet hb7 (p := ⟨xb, 14, none⟩) (by show W.heap.size ≤ xb; omega) (.int .i64 time)
  clear BX BC7 BJ7 hb7 x14 z14
  generalize w7.setCell ⟨xb, 14, none⟩ (.int .i64 time) = w8 at *
  have y5 : w8.cell? ⟨W.heap.size, 5, none⟩ = some (.slice AJ c.jobs.length cj) := (BC8.cell 5).trans k5
  have hl8 := BC8.lt
  apply wp_region_lit
  iterate 9 go_step
  refine wpList_appendG (.tmp 53) (.tmp 55) 26 w8.heap.size 45 zJob 49 280 (.slice (some ⟨w8.heap.size, 0, none⟩) 0 0) 0 [] AJ c.jobs.length cj W.heap.size (jcs.flatMap Array.toList) rfl rfl Tryd.underlying26 job_info4 rfl (by omega) rfl (own_empty w8 _ _ _ (Nat.le_refl _)) rfl
    ((hR0.below hb8).alloc (by omega) _) (fun e => by obtain ⟨b', off, e2, _⟩ := hR0.2 (by omega); rw [e] at e2; cases e2) hone (by unfold maxLen; omega) (by omega) (by simp) (fun v9 w9 own9 hg9 => ?_)
  obtain ⟨g, cap, cur, rfl, hgb, BG9, hnc, hcm, hcs, hct⟩ := own_some own9 (by omega)
  have hb89 := hg9.below (own_empty w8 45 49 w8.heap.size (Nat.le_refl _)) (by simp)
  have hb88 : Below w8.heap.size w8 w9 := (bAl (bRefl w8) (.cells #[] 45)).trans hb89
  have hxl : xb < w8.heap.size := BX8.lt
  have BX9 := BX8.below hb88 hxl
  have BC9 := BC8.below hb88 BC8.lt
  have BJ9 := BJ8.below hb88 BJ8.lt
  have hb9 := bCall hb8 hb88
  clear BX8 BC8 BJ8 hb89 hb88 own9 hg9 y5 hb8
  have x5 : w9.cell? ⟨xb, 5, none⟩ = some (.slice AJ c.jobs.length cj) := (BX9.cell 5).trans ((set_ne (by decide)).trans k5)
  have z5 := BX9.frozen 5
  go_upto_region 13 with fail
  obtain ⟨u, hu⟩ : ∃ u, Hid (u = Value.slice (some ⟨g, 0, none⟩) c.jobs.length cap) := ⟨_, Lib.hid rfl⟩
  have BXa := BX9.set_ 5 (.slice (some ⟨g, 0, none⟩) c.jobs.length cap)
  have BCa := BC9.far (p := ⟨xb, 5, none⟩) (by show W.heap.size ≠ xb; omega) (.slice (some ⟨g, 0, none⟩) c.jobs.length cap)
  have BJa := BJ9.far (p := ⟨xb, 5, none⟩) (by show W.heap.size + 1 ≠ xb; omega) (.slice (some ⟨g, 0, none⟩) c.jobs.length cap)
  have BGa := BG9.far (p := ⟨xb, 5, none⟩) (by show g ≠ xb; omega) (.slice (some ⟨g, 0, none⟩) c.jobs.length cap)
  have hba := bSet hb9 (p := ⟨xb, 5, none⟩) (by show W.heap.size ≤ xb; omega) (.slice (some ⟨g, 0, none⟩) c.jobs.length cap)
  clear BX9 BC9 BJ9 BG9 hb9 x5 z5 u hu
  generalize w9.setCell ⟨xb, 5, none⟩ (.slice (some ⟨g, 0, none⟩) c.jobs.length cap) = wa at *
  have hj49 : ∀ y ∈ jcs, y.toList.length = 49 := fun y hy => by
    obtain ⟨i, hi⟩ := List.getElem?_of_mem hy
    simpa using (h.job i y hi).1
  have hX5 : ((cs.setIfInBounds 14 (.int .i64 time)).setIfInBounds 5 (.slice (some ⟨g, 0, none⟩) c.jobs.length cap))[5]? = some (.slice (some ⟨g, 0, none⟩) c.jobs.length cap) := set_eq (by rw [Array.size_setIfInBounds, h.size]; omega)
  obtain ⟨csX, hcsX⟩ : ∃ X, Hid (X = (cs.setIfInBounds 14 (.int .i64 time)).setIfInBounds 5 (.slice (some ⟨g, 0, none⟩) c.jobs.length cap)) := ⟨_, Lib.hid rfl⟩
  rw [← hcsX.out] at BXa hX5
  have hlw : IntKind.i64.wrap ((l : Int) + 1) = ((l + 1 : Nat) : Int) := by rw [IntKind.wrap_i64]; omega
  go_wp2_with fail
  go_loopw [11] (fun i wr => ∃ k : Nat, l + 1 ≤ k ∧ k ≤ c.jobs.length ∧ i = .int .i64 k ∧ Below W.heap.size W wr ∧ Blk wr xb 33 csX ∧ Blk wr (W.heap.size + 1) 45 jc ∧ ∃ cur, Blk wr g 45 cur ∧ cur.size = cap * 49 ∧ cur.toList.take (c.jobs.length * 49) = (jobsUp jcs jc l k).flatMap Array.toList) (fun i _ => c.jobs.length - (intOf i).toNat)
  case atStart => exact ⟨l + 1, Nat.le_refl _, by omega, by go_num, hba, BXa, BJa, cur, BGa, hcs, by rw [hct, jobsUp_start]⟩
  case round =>
    clear BXa BCa BJa BGa hba hct hcs hlw cur
    obtain ⟨k, hk1, hkn, rfl, hb, BX, BJ, cur, BG, hcs, hct⟩ := hrel
    have x5 : wr.cell? ⟨xb, 5, none⟩ = some (.slice (some ⟨g, 0, none⟩) c.jobs.length cap) := (BX.cell 5).trans hX5
    by_cases hlt : k < c.jobs.length
    · have i0 : (0 : Int) ≤ (k : Int) := by omega
      have i1 : (k : Int) < (c.jobs.length : Int) := by omega
      go_upto_region 16 with fail
      apply wp_region_lit
      iterate 9 go_step
      have LJ := load_job BJ js49
      have hk49 : k * 49 + 49 ≤ c.jobs.length * 49 := by have := Nat.mul_le_mul_right 49 (show k + 1 ≤ c.jobs.length by omega); omega
      have hn49 : c.jobs.length * 49 ≤ cap * 49 := Nat.mul_le_mul_right 49 hnc
      refine wpList_loadG (by rfl) (by rfl) (by rfl) LJ ?_
      simp only [Act.put, List.setIfInBounds_toArray, List.set_cons_zero, List.set_cons_succ]
      clear LJ
      iterate 3 go_step
      refine wpList_storeG (q := .pointer (some ⟨g, k * 49, none⟩)) (by rfl) (by rfl) (by rfl) (by rfl) (store_at BG (by rw [js49]; exact job_info) (by rw [js49, hcs]; omega) jone) ?_
      simp only [Act.put]
      rw [js49]
      have hs' : (cur.toList.take (k * 49) ++ jc.toList ++ cur.toList.drop (k * 49 + 49)).toArray.size = cap * 49 := by
        simp only [List.size_toArray, List.length_append, List.length_take, List.length_drop, Array.length_toList, js49, hcs]
        omega
      have ht' : (cur.toList.take (k * 49) ++ jc.toList ++ cur.toList.drop (k * 49 + 49)).toArray.toList.take (c.jobs.length * 49) = (jobsUp jcs jc l (k + 1)).flatMap Array.toList := by
        have := take_seg (l := cur.toList) (x := jc.toList) (o := k * 49) (n := c.jobs.length * 49) (by rw [Array.length_toList, js49]; omega) (by rw [Array.length_toList, hcs]; omega)
        rw [Array.length_toList, js49] at this
        rw [List.toList_toArray, this, hct, ← jobsUp_next (by omega)]
        have h2 := flatA_set (sz := 49) (jobsUp jcs jc l k) k jc (fun y hy => ?_) (by rw [jobsUp_length, h.jlen]; exact hlt)
        · exact h2
        · obtain ⟨i, hi⟩ := List.getElem?_of_mem hy
          unfold jobsUp at hi
          rw [List.getElem?_mapIdx] at hi
          cases hq : jcs[i]? with
          | none => rw [hq] at hi; cases hi
          | some z =>
            rw [hq] at hi
            have h3 : (if i ≤ l ∨ k ≤ i then z else jc) = y := Option.some.inj hi
            rw [← h3]
            split
            · exact hj49 z (List.mem_of_getElem? hq)
            · rw [Array.length_toList, js49]
      have BG' := BG.row (cur.toList.take (k * 49) ++ jc.toList ++ cur.toList.drop (k * 49 + 49)).toArray
      generalize (cur.toList.take (k * 49) ++ jc.toList ++ cur.toList.drop (k * 49 + 49)).toArray = cur' at *
      have BX' := BX.farRow (g' := g) (by omega) cur'
      have BJ' := BJ.farRow (g' := g) (by omega) cur'
      have hb' := below_setRow hb (show W.heap.size ≤ g by omega) cur'
      clear BX BJ BG hb x5 hcs hct
      generalize wr.setRow g cur' = wr' at *
      go_wp2_with fail
      exact ⟨⟨k + 1, by omega, by omega, by go_num, hb', BX', BJ', cur', BG', hs', ht'⟩, by simp [intOf]; omega⟩
    · have i1 : ¬ (k : Int) < (c.jobs.length : Int) := by omega
      have hkk : jcs.length ≤ k := by rw [h.jlen]; omega
      have hXs : csX.size = 15 := by rw [hcsX.out]; simp only [Array.size_setIfInBounds]; exact h.size
      have hjl : (c.with l j).jobs.length = c.jobs.length := by unfold Cs.with; simp
      have C0 := ((h.below hb).more hb.size).setTime time
      have hR := Rd.of_blk BG hct (by
        rw [← hct, List.length_take, Array.length_toList, hcs, Nat.min_eq_left]
        exact Nat.mul_le_mul_right 49 hnc)
      rw [← hjl] at hR
      have C1 := C0.setJobs (cj := cap) (jobs' := (c.with l j).jobs) hR (by rw [jobsUp_length, hjl, h.jlen]) (fun k' jc' hk' => by
        rcases jobsUp_end hkk k' jc' hk' with ⟨h1, h2⟩ | ⟨h1, h2⟩
        · obtain ⟨a1, a2, a3, a4⟩ := h.job k' jc' h2
          have e : (c.with l j).jobs.getD k' zeroJ = c.jobAt k' := with_job (j := j) h1
          rw [e]
          exact ⟨a1, a2, (a3.below hb).more hb.size, a4⟩
        · have hlt' : k' < c.jobs.length := by have := (List.getElem?_eq_some_iff.1 hk').1; rw [jobsUp_length, h.jlen] at this; exact this
          have e : (c.with l j).jobs.getD k' zeroJ = j := with_late (c := c) (j := j) h1 hlt'
          rw [e, h2]
          exact ⟨js49, jone, (jat.below hb).more hb.size, jsm⟩)
      rw [hjl, ← hcsX.out] at C1
      have hchk := (check_later (c := c) (l := l) (j := j) Hem.out (by rw [Hce.out]) (by rw [Hce.out]; exact hw0) (by rw [Hce.out])).trans Hce.out
      have q := hP.of (c := c.with l j) C1 (hG.below hb) hchk
      have LC := load_case BX hXs
      clear C0 C1 hR hchk
      go_upto_region 17 with fail
      apply wp_region_lit
      refine wpList_loadG (by rfl) (by rfl) (by rfl) LC ?_
      simp only [Act.put, List.setIfInBounds_toArray, List.set_cons_zero, List.set_cons_succ]
      clear LC
      go_wp2_with fail
      (with_reducible refine q.mono ?_)
      rintro e' w6 ⟨rfl, b6⟩
      go_wp2_with fail
      go_ret
      exact ⟨ret_bool (by simp), bCall hb b6⟩
end Go.Proofs.YthgppaiiapkdjaaDoor
