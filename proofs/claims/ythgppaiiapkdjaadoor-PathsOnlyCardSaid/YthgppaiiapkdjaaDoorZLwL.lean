/-
  frankinglaw55.PathsOthers, walked.
-/
import Derived.Test.YthgppaiiapkdjaaDoorMbq
import Derived.Test.YthgppaiiapkdjaaDoorMbm
import Derived.Test.YthgppaiiapkdjaaDoorMbg
import Derived.Test.YthgppaiiapkdjaaDoorZLwJ
namespace Go.Proofs.YthgppaiiapkdjaaDoor
open Go.RowKit

/-- A list of letters with another one in a place. -/
theorem flatL_set : ∀ (l : List Ltr) (k : Nat) (x : Ltr), k < l.length →
    (l.flatMap Ltr.cl).take (k * 6) ++ x.cl ++ (l.flatMap Ltr.cl).drop (k * 6 + 6) = (l.set k x).flatMap Ltr.cl
  | [], k, _, h => by simp at h
  | y :: l, 0, x, _ => by
    have hy : y.cl.length = 6 := rfl
    rw [Nat.zero_mul, List.take_zero, List.nil_append, List.flatMap_cons, Nat.zero_add, List.drop_append_of_le_length (by omega), List.drop_eq_nil_of_le (by omega)]
    rfl
  | y :: l, k + 1, x, h => by
    have hy : y.cl.length = 6 := rfl
    have ih := flatL_set l k x (by simpa using h)
    rw [List.flatMap_cons, List.set_cons_succ, List.flatMap_cons, ← ih]
    have e1 : (k + 1) * 6 = y.cl.length + k * 6 := by rw [hy, Nat.succ_mul]; omega
    rw [e1, List.take_length_add_append, Nat.add_assoc, List.drop_length_add_append]
    simp only [List.append_assoc]
theorem cl_one (l : List Ltr) : ∀ u ∈ l.flatMap Ltr.cl, u.oneCell' = true := fun u hu => by
  obtain ⟨x, _, hx⟩ := List.mem_flatMap.1 hu
  unfold Ltr.cl at hx
  simp only [List.mem_cons, List.not_mem_nil, or_false] at hx
  rcases hx with rfl | rfl | rfl | rfl | rfl | rfl <;> rfl
theorem sealed_size : (Tryd.prog.info? 56).map (·.size) = some 6 := by kernel_rfl
theorem jobs_at {w : World} {B : Nat} {cs : Array Value} {jcs : List (Array Value)} {c : Cs} (h : CaseAt w B cs jcs c) {A : Option Addr} (hR : Rd w B 49 A c.jobs.length (jcs.flatMap Array.toList)) {k : Nat} {jc : Array Value} (hk : jcs[k]? = some jc) :
    ∃ bj off, A = some ⟨bj, off, none⟩ ∧ bj < B ∧ w.rangeAt bj (off + k * 49) jc.toList := by
  have hlt : k < c.jobs.length := by have := (List.getElem?_eq_some_iff.1 hk).1; rw [h.jlen] at this; exact this
  obtain ⟨bj, off, hA, hbj, hcj⟩ := hR.2 (by omega)
  refine ⟨bj, off, hA, hbj, fun j u hj => ?_⟩
  rw [Nat.add_assoc]
  refine hcj _ _ ?_
  have hj49 : j < 49 := by have := (List.getElem?_eq_some_iff.1 hj).1; simpa [(h.job k jc hk).1] using this
  rw [flat_mem jcs k j jc (fun z hz => by obtain ⟨i, hi⟩ := List.getElem?_of_mem hz; simpa using (h.job i z hi).1) hk hj49]
  exact hj

set_option maxRecDepth 100000 in
set_option maxHeartbeats 8000000 in
theorem lw_others (hS : SaneOk) (hP : CheckOk) (cs : Array Value) (jcs : List (Array Value)) (c : Cs) (p : Int) (s : Ltr) (W : World) (hG : ShaG W) (h : CaseAt W W.heap.size cs jcs c) :
    Calls Tryd.prog 4 #[.agg cs, .int .i64 p, .agg #[.int .i64 s.a0, .int .i64 s.b0, .int .i64 s.a1, .int .i64 s.b1, .int .i64 s.a2, .int .i64 s.b2]] W (Ret (.bool true) W) := by
  have BC := (Blk.new W 33 cs _ rfl).alloc (.cells #[.int .i64 s.a0, .int .i64 s.b0, .int .i64 s.a1, .int .i64 s.b1, .int .i64 s.a2, .int .i64 s.b2] 56)
  have BS := Blk.new (W.alloc (.cells cs 33)) 56 #[.int .i64 s.a0, .int .i64 s.b0, .int .i64 s.a1, .int .i64 s.b1, .int .i64 s.a2, .int .i64 s.b2] (W.heap.size + 1) (by simp)
  have hb := bAl (bAl (bRefl W) (.cells cs 33)) (.cells #[.int .i64 s.a0, .int .i64 s.b0, .int .i64 s.a1, .int .i64 s.b1, .int .i64 s.a2, .int .i64 s.b2] 56)
  go_enter Tryd.func4, Tryd.ntmps4
  go_upto_region 1 with fail
  generalize (W.alloc (.cells cs 33)).alloc (.cells #[.int .i64 s.a0, .int .i64 s.b0, .int .i64 s.a1, .int .i64 s.b1, .int .i64 s.a2, .int .i64 s.b2] 56) = w1 at *
  have q := hS w1 (hG.below hb)
  go_wp2_with fail
  (with_reducible refine q.mono ?_)
  rintro e w2 ⟨rfl, b2⟩
  clear q
  have BC2 := BC.below b2 BC.lt
  have BS2 := BS.below b2 BS.lt
  have hb2 := bCall hb b2
  clear BC BS hb b2
  have C2 := (h.below hb2).more hb2.size
  have LC := load_case BC2 h.size
  have qf := ref_fewcase cs jcs c w2 C2
  go_upto_region 3 with fail
  apply wp_region_lit
  refine wpList_loadG (by rfl) (by rfl) (by rfl) LC ?_
  simp only [Act.put, List.setIfInBounds_toArray, List.set_cons_zero, List.set_cons_succ]
  cases hf : c.few
  · rw [hf] at qf
    clear hf LC
    go_wp2_with fail
    (with_reducible refine qf.mono ?_)
    rintro e w3 ⟨rfl, b3⟩
    go_wp2_with fail
    go_ret
    exact ⟨rfl, bCall hb2 b3⟩
  rw [hf] at qf
  have hfl := few_le hf
  clear hf LC
  go_wp2_with fail
  (with_reducible refine qf.mono ?_)
  rintro e w3 ⟨rfl, b3⟩
  have BC3 := BC2.below b3 BC2.lt
  have BS3 := BS2.below b3 BS2.lt
  have hb3 := bCall hb2 b3
  clear qf BC2 BS2 hb2 b3 C2
  obtain ⟨AF, cf, k3, hRF⟩ := h.first
  have k6 := h.place
  have y3 : w3.cell? ⟨W.heap.size, 3, none⟩ = some (.slice AF c.first.length cf) := (BC3.cell 3).trans k3
  have y6 : w3.cell? ⟨W.heap.size, 6, none⟩ = some (.int .i64 c.place) := (BC3.cell 6).trans k6
  obtain ⟨l0, l1, l2, l3, l4, l5⟩ := BS3.six
  have q3 := ref_check s w3
  by_cases i0 : p < 0
  case pos =>
    go_wp2_with fail
    go_ret
    exact ⟨rfl, hb3⟩
  by_cases i1 : p < (c.first.length : Int)
  case neg =>
    have i1' : (c.first.length : Int) ≤ p := by omega
    go_wp2_with fail
    go_ret
    exact ⟨rfl, hb3⟩
  have i1' : ¬ (c.first.length : Int) ≤ p := by omega
  by_cases i2 : p = c.place
  case pos =>
    have t : (p == c.place) = true := by rw [beq_iff_eq]; exact i2
    go_wp2_with fail
    go_ret
    exact ⟨rfl, hb3⟩
  have t2 : (p == c.place) = false := by rw [beq_eq_false_iff_ne]; exact i2
  by_cases hg : s.good = true
  case neg =>
    have he : s.err = 100 := if_neg hg
    rw [he] at q3
    clear he
    go_wp2_with fail
    (with_reducible refine q3.mono ?_)
    rintro e w4 ⟨rfl, b4⟩
    go_wp2_with fail
    go_ret
    exact ⟨rfl, bCall hb3 b4⟩
  have he : s.err = 0 := if_pos hg
  rw [he] at q3
  have Hg := Lib.hid hg
  clear he hg
  go_wp2_with fail
  (with_reducible refine q3.mono ?_)
  rintro e w4 ⟨rfl, b4⟩
  have BC4 := BC3.below b4 BC3.lt
  have BS4 := BS3.below b4 BS3.lt
  have hb4 := bCall hb3 b4
  clear q3 BC3 BS3 hb3 b4 y3 y6 l0 l1 l2 l3 l4 l5
  have C5 := (h.below hb4).more hb4.size
  have LC := load_case BC4 h.size
  obtain ⟨a, b, e, hce⟩ := chk_parts (c := c)
  have Hce := Lib.hid hce
  have q4 := hP.of C5 (hG.below hb4) hce
  clear hce
  go_upto_region 5 with fail
  apply wp_region_lit
  refine wpList_loadG (by rfl) (by rfl) (by rfl) LC ?_
  simp only [Act.put, List.setIfInBounds_toArray, List.set_cons_zero, List.set_cons_succ]
  clear LC
  go_wp2_with fail
  (with_reducible refine q4.mono ?_)
  rintro e' w6 ⟨rfl, b6⟩
  have BC6 := BC4.below b6 BC4.lt
  have BS6 := BS4.below b6 BS4.lt
  have hb6 := bCall hb4 b6
  clear BC4 BS4 hb4 b6 q4 C5
  by_cases he : e = 0
  case neg =>
    have t : (e == 0) = false := by rw [beq_eq_false_iff_ne]; exact he
    go_wp2_with fail
    go_ret
    exact ⟨rfl, hb6⟩
  subst he
  obtain ⟨AJ, cj, k5, hR0⟩ := h.jobs
  have y5 : w6.cell? ⟨W.heap.size, 5, none⟩ = some (.slice AJ c.jobs.length cj) := (BC6.cell 5).trans k5
  by_cases hn : c.jobs.length = 0
  case pos =>
    rw [hn] at y5
    go_wp2_with fail
    go_ret
    exact ⟨rfl, hb6⟩
  obtain ⟨jc, hjc⟩ : ∃ jc, Hid (jcs[0]? = some jc) := ⟨_, Lib.hid (List.getElem?_eq_getElem (by rw [h.jlen]; omega))⟩
  have C6 := (h.below hb6).more hb6.size
  obtain ⟨a1, a2, a3, a4⟩ := C6.job 0 jc hjc.out
  obtain ⟨bj, off, hAJ, hbj, hrange⟩ := jobs_at C6 ((hR0.below hb6).more hb6.size) hjc.out
  subst hAJ
  rw [Nat.zero_mul, Nat.add_zero] at hrange
  have LJ : (Instr.loadAt 45 (.pointer (some ⟨bj, off, none⟩))).run Tryd.prog w6 = .ok (.agg jc) w6 := by
    have := run_loadAt_mid (P := Tryd.prog) w6 bj off 45 jc.toList _ hrange Tryd.underlying45 rfl (by rw [Array.length_toList, a1]; exact job_info)
    rwa [Array.toArray_toList] at this
  have q5 := ref_empty jc (c.jobAt 0).emptyB w6 (a3.lens3 a4)
  have t5 : ((c.jobs.length : Int) == 0) = false := by rw [beq_eq_false_iff_ne]; omega
  have j0 : (0 : Int) < (c.jobs.length : Int) := by omega
  cases hem : (c.jobAt 0).emptyB
  case true =>
    rw [hem] at q5
    clear hem
    go_upto_region 6 with fail
    apply wp_region_lit
    iterate 31 go_step
    refine wpList_loadG (by rfl) (by rfl) (by rfl) LJ ?_
    simp only [Act.put, List.setIfInBounds_toArray, List.set_cons_zero, List.set_cons_succ]
    clear hrange LJ
    go_wp2_with fail
    (with_reducible refine q5.mono ?_)
    rintro e w' ⟨rfl, b'⟩
    go_wp2_with fail
    go_ret
    exact ⟨rfl, bCall hb6 b'⟩
  rw [hem] at q5
  have Hem := Lib.hid hem
  clear hem
  go_upto_region 6 with fail
  apply wp_region_lit
  iterate 31 go_step
  refine wpList_loadG (by rfl) (by rfl) (by rfl) LJ ?_
  simp only [Act.put, List.setIfInBounds_toArray, List.set_cons_zero, List.set_cons_succ]
  clear hrange LJ
  go_wp2_with fail
  (with_reducible refine q5.mono ?_)
  rintro e w7 ⟨rfl, b7⟩
  have BC7 := BC6.below b7 BC6.lt
  have BS7 := BS6.below b7 BS6.lt
  have hb7 := bCall hb6 b7
  clear BC6 BS6 hb6 b7 q5 C6 a1 a2 a3 a4 y5
  have LC := load_case BC7 h.size
  go_upto_region 8 with fail
  apply wp_region_lit
  refine wpList_loadG (by rfl) (by rfl) (by rfl) LC ?_
  simp only [Act.put, List.setIfInBounds_toArray, List.set_cons_zero, List.set_cons_succ]
  iterate 3 go_step
  refine wpList_storeG (by rfl) (by rfl) (by rfl) (by rfl) (store_newW (by rw [h.size]; exact case_info') (by rw [h.size]; rfl) h.one) ?_
  simp only [Act.put]
  have BX := Blk.new w7 33 cs _ rfl
  have BC8 := BC7.alloc (.cells cs 33)
  have BS8 := BS7.alloc (.cells cs 33)
  have hb8 := bAl hb7 (.cells cs 33)
  have hx : W.heap.size + 1 < w7.heap.size := BS7.lt
  clear BC7 BS7 hb7 LC
  generalize w7.alloc (.cells cs 33) = w8 at *
  generalize w7.heap.size = xb at *
  have y3 : w8.cell? ⟨W.heap.size, 3, none⟩ = some (.slice AF c.first.length cf) := (BC8.cell 3).trans k3
  have hl8 := BC8.lt
  have hpos : c.first.length ≠ 0 := by omega
  have hAF : ¬ AF = none := fun e => by obtain ⟨b', o', e2, _⟩ := hRF.1.2 (by omega); rw [e] at e2; cases e2
  go_upto_region 9 with fail
  apply wp_region_lit
  iterate 9 go_step
  refine wpList_appendG (.tmp 64) (.tmp 66) 24 w8.heap.size 56 zLtr 6 48 (.slice (some ⟨w8.heap.size, 0, none⟩) 0 0) 0 [] AF c.first.length cf W.heap.size (c.first.flatMap Ltr.cl) rfl rfl Tryd.underlying24 sealed_info4 rfl (by omega) rfl (own_empty w8 _ _ _ (Nat.le_refl _)) rfl
    ((hRF.1.below hb8).alloc (by omega) _) (fun e => absurd e hAF) (cl_one _) (by unfold maxLen; omega) (by omega) (by simp) (fun v9 w9 own9 hg9 => ?_)
  obtain ⟨g, cap, cur, rfl, hgb, BG9, hnc, hcm, hcs, hct⟩ := own_some own9 (by omega)
  have hb89 := hg9.below (own_empty w8 56 6 w8.heap.size (Nat.le_refl _)) (by simp)
  have hb88 : Below w8.heap.size w8 w9 := (bAl (bRefl w8) (.cells #[] 56)).trans hb89
  have hxl : xb < w8.heap.size := BX.lt
  have BX9 := BX.below hb88 hxl
  have BC9 := BC8.below hb88 BC8.lt
  have BS9 := BS8.below hb88 BS8.lt
  have hb9 := bCall hb8 hb88
  clear BX BC8 BS8 hb89 hb88 own9 hg9 y3 hb8
  have x3 : w9.cell? ⟨xb, 3, none⟩ = some (.slice AF c.first.length cf) := (BX9.cell 3).trans k3
  have z3 := BX9.frozen 3
  go_upto_region 10 with fail
  have BXa := BX9.set_ 3 (.slice (some ⟨g, 0, none⟩) c.first.length cap)
  have BSa := BS9.far (p := ⟨xb, 3, none⟩) (by show W.heap.size + 1 ≠ xb; omega) (.slice (some ⟨g, 0, none⟩) c.first.length cap)
  have BGa := BG9.far (p := ⟨xb, 3, none⟩) (by show g ≠ xb; omega) (.slice (some ⟨g, 0, none⟩) c.first.length cap)
  have hba := bSet hb9 (p := ⟨xb, 3, none⟩) (by show W.heap.size ≤ xb; omega) (.slice (some ⟨g, 0, none⟩) c.first.length cap)
  clear BX9 BC9 BS9 BG9 hb9 x3 z3
  generalize w9.setCell ⟨xb, 3, none⟩ (.slice (some ⟨g, 0, none⟩) c.first.length cap) = wa at *
  have hX3 : (cs.setIfInBounds 3 (.slice (some ⟨g, 0, none⟩) c.first.length cap))[3]? = some (.slice (some ⟨g, 0, none⟩) c.first.length cap) := set_eq (by rw [h.size]; omega)
  have x3 : wa.cell? ⟨xb, 3, none⟩ = some (.slice (some ⟨g, 0, none⟩) c.first.length cap) := (BXa.cell 3).trans hX3
  obtain ⟨l0, l1, l2, l3, l4, l5⟩ := BSa.six
  obtain ⟨k, rfl⟩ : ∃ k : Nat, p = (k : Int) := ⟨p.toNat, by omega⟩
  have hk : k < c.first.length := by omega
  have i3 : (0 : Int) ≤ (k : Int) := by omega
  have hk6 : k * 6 + 6 ≤ c.first.length * 6 := by have := Nat.mul_le_mul_right 6 (show k + 1 ≤ c.first.length by omega); omega
  have hn6 : c.first.length * 6 ≤ cap * 6 := Nat.mul_le_mul_right 6 hnc
  apply wp_region_lit
  iterate 15 go_step
  refine wpList_storeG (q := .pointer (some ⟨g, k * 6, none⟩)) (v := .agg #[.int .i64 s.a0, .int .i64 s.b0, .int .i64 s.a1, .int .i64 s.b1, .int .i64 s.a2, .int .i64 s.b2]) (by rfl) (by rfl) (by rfl) (by rfl) (store_at BGa sealed_size (by rw [hcs]; show k * 6 + 6 ≤ _; omega) (by intro v hv; simp only [List.mem_cons, List.not_mem_nil, or_false] at hv; rcases hv with rfl | rfl | rfl | rfl | rfl | rfl <;> rfl)) ?_
  simp only [Act.put]
  have hs6 : (#[.int .i64 s.a0, .int .i64 s.b0, .int .i64 s.a1, .int .i64 s.b1, .int .i64 s.a2, .int .i64 s.b2] : Array Value).size = 6 := rfl
  rw [hs6]
  have hs' : (cur.toList.take (k * 6) ++ s.cl ++ cur.toList.drop (k * 6 + 6)).toArray.size = cap * 6 := by
    have e6 : s.cl.length = 6 := rfl
    simp only [List.size_toArray, List.length_append, List.length_take, List.length_drop, Array.length_toList, e6, hcs]
    omega
  have ht' : (cur.toList.take (k * 6) ++ s.cl ++ cur.toList.drop (k * 6 + 6)).toArray.toList.take (c.first.length * 6) = (c.first.set k s).flatMap Ltr.cl := by
    have := take_seg (l := cur.toList) (x := s.cl) (o := k * 6) (n := c.first.length * 6) (by show k * 6 + 6 ≤ _; omega) (by rw [Array.length_toList, hcs]; omega)
    rw [show s.cl.length = 6 from rfl] at this
    rw [List.toList_toArray, this, hct]
    exact flatL_set c.first k s hk
  change wpList _ _ _ _ _ (wa.setRow g (cur.toList.take (k * 6) ++ s.cl ++ cur.toList.drop (k * 6 + 6)).toArray)
  have BGb := BGa.row (cur.toList.take (k * 6) ++ s.cl ++ cur.toList.drop (k * 6 + 6)).toArray
  generalize (cur.toList.take (k * 6) ++ s.cl ++ cur.toList.drop (k * 6 + 6)).toArray = cur' at *
  have BXb := BXa.farRow (g' := g) (by omega) cur'
  have hbb := below_setRow hba (show W.heap.size ≤ g by omega) cur'
  clear BGa BXa BSa hba x3 l0 l1 l2 l3 l4 l5 hct hcs
  generalize wa.setRow g cur' = wb at *
  have hXs : (cs.setIfInBounds 3 (.slice (some ⟨g, 0, none⟩) c.first.length cap)).size = 15 := by rw [Array.size_setIfInBounds]; exact h.size
  have hsl : (c.first.set k s).length = c.first.length := List.length_set
  have hR := Rd.of_blk BGb ht' (by
    rw [← ht', List.length_take, Array.length_toList, hs', Nat.min_eq_left]
    exact hn6)
  have LN : LsAt wb wb.heap.size (some (.slice (some ⟨g, 0, none⟩) c.first.length cap)) (c.first.set k s) := by
    unfold maxLen at hcm
    exact ⟨some ⟨g, 0, none⟩, cap, by rw [hsl], by rw [hsl]; exact hR, by rw [hsl]; exact hnc, by omega⟩
  have C1 := ((h.below hbb).more hbb.size).setFirst LN
  have hchk := (check_other (c := c) (i := k) (x := s) Hg.out i2 Hem.out (by rw [Hce.out])).trans Hce.out
  have q := hP.of (c := c.other k s) C1 (hG.below hbb) hchk
  have LC := load_case BXb hXs
  clear C1 hR LN hchk
  go_upto_region 11 with fail
  apply wp_region_lit
  refine wpList_loadG (by rfl) (by rfl) (by rfl) LC ?_
  simp only [Act.put, List.setIfInBounds_toArray, List.set_cons_zero, List.set_cons_succ]
  clear LC
  go_wp2_with fail
  (with_reducible refine q.mono ?_)
  rintro e' wc ⟨rfl, bc⟩
  go_wp2_with fail
  go_ret
  exact ⟨ret_bool (by simp), bCall hbb bc⟩
end Go.Proofs.YthgppaiiapkdjaaDoor
