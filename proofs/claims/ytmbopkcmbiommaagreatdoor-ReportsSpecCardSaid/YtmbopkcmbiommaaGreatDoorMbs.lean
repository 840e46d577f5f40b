/-
  Small worlds; frankinglaw59.fails, walked.
-/
import Derived.Test.YtmbopkcmbiommaaGreatDoorMbl
import Derived.Test.YtmbopkcmbiommaaGreatDoorMbp
import Derived.Test.YtmbopkcmbiommaaGreatDoorMbq
import Derived.Test.YtmbopkcmbiommaaGreatDoorMbr
namespace Go.Proofs.YtmbopkcmbiommaaGreatDoor
open Go Go.RowKit

theorem isI_wf {n : Int} (h : isI n) : (Lit.int .i64 n).wf = true := by
  have h1 : IntKind.i64.min = -9223372036854775808 := rfl
  have h2 : IntKind.i64.max = 9223372036854775807 := rfl
  simp only [Lit.wf, h1, h2, Bool.and_eq_true, decide_eq_true_eq]
  exact h
theorem few_small {x : Wld} (h : fewW x = true) (io : x.io) : x.small := by
  unfold fewW at h
  simp only [Bool.and_eq_true, decide_eq_true_eq] at h
  obtain ⟨h1, h2, h3, h4, h5, h6, h7, h8, h9, h10⟩ := h
  refine ⟨by omega, fun y hy => ?_, by omega, by omega, by omega, by omega, fun o ho => ?_, by omega, fun e he => isI_wf (io.kind e he), by omega, io.seed, by omega⟩
  · have h9 := List.all_eq_true.1 h9 y hy
    unfold fewL at h9
    simp only [Bool.and_eq_true, decide_eq_true_eq] at h9
    exact ⟨by omega, by omega, by omega, by omega⟩
  · have h10 := of_decide_eq_true (List.all_eq_true.1 h10 o ho)
    have := io.crowd o ho
    unfold isI at this
    exact ⟨by omega, by omega, by omega⟩
theorem rows_le : ∀ l : List Rw, l.length ≤ (l.flatMap rowT).length
  | [] => Nat.zero_le _
  | r :: l => by
    have := rows_le l
    rw [List.flatMap_cons, List.length_append, List.length_cons]
    have h2 : 1 ≤ (rowT r).length := by unfold rowT; rw [List.length_append, List.length_cons, List.length_nil]; omega
    omega
theorem lin_mem_len {y : Lin} : ∀ {l : List Lin}, y ∈ l → (linR y).length ≤ (l.flatMap linR).length
  | z :: l, h => by
    rw [List.flatMap_cons, List.length_append]
    rcases List.mem_cons.1 h with rfl | h
    · omega
    · have := lin_mem_len h
      omega
theorem lins_len_le : ∀ l : List Lin, l.length ≤ (l.flatMap linR).length
  | [] => Nat.zero_le _
  | z :: l => by
    have := lins_len_le l
    rw [List.flatMap_cons, List.length_append, List.length_cons]
    have h2 : 1 ≤ (linR z).length := by unfold linR; rw [List.length_cons]; omega
    omega
theorem read_small {src : By} {x : Wld} {n : Nat} (h : readV src = (x, n, 0)) (hs : src.length ≤ 1000000) : x.small := by
  obtain ⟨_, h2, h3, h4, h5⟩ := print_read h
  obtain ⟨ht, _, ho⟩ := print_text h2
  have hb := post_len h3
  have hl := rows_le x.rows
  have htl : x.text.length = (headT x).length + (x.rows.flatMap rowT).length := by unfold Wld.text; rw [List.length_append]
  rw [← ht] at htl
  have hr : x.rows.length = x.base.length + (x.tiers.length + ((x.lines.flatMap linR).length + (x.orders.length + (x.ents.length + (x.secs.length + x.faults.length))))) := by
    unfold Wld.rows
    simp only [List.length_append, List.length_map, List.length_zip]
    omega
  have hll := lins_len_le x.lines
  refine small_read ht.symm ho hs h5 (by omega) (fun y hy => ?_) (by omega) (by omega) (by omega) (by omega) (by omega) (by omega) (by omega)
  have := lin_mem_len hy
  have e : (linR y).length = y.rules.length + y.off.length + 1 := by unfold linR; rw [List.length_cons, List.length_append, List.length_map, List.length_map]
  omega
theorem small_zero : zeroW.small := ⟨by decide, fun y hy => (by cases hy), by decide, by decide, by decide, by decide, fun y hy => (by cases hy), by decide, fun y hy => (by cases hy), by decide, rfl, by decide⟩
set_option maxRecDepth 100000 in
theorem built_zero : Tryz.prog.built 35 [] = some (nilWS.cl zeroW).toArray := by kernel_rfl
theorem wsCl_one {s : WS} {x : Wld} : ∀ v ∈ (s.cl x).toArray.toList, v.oneCell' = true := by
  intro v hv
  replace hv : v ∈ s.cl x := by simpa using hv
  unfold WS.cl at hv
  rcases List.mem_append.1 hv with hv | hv
  · simp only [List.mem_cons, List.not_mem_nil, or_false] at hv
    rcases hv with rfl | rfl | rfl | rfl | rfl | rfl | rfl | rfl | rfl | rfl <;> rfl
  · rcases List.mem_append.1 hv with hv | hv
    · exact byts_oneCell v hv
    · obtain rfl := List.mem_singleton.1 hv
      rfl
theorem whole_ld {s : WS} {x : Wld} (h : x.seed.length = 32) {w : World} {g : Nat} (B : Blk w g 35 (s.cl x).toArray) : (Instr.loadAt 35 (.pointer (some ⟨g, 0, none⟩))).run Tryz.prog w = .ok (.agg (s.cl x).toArray) w :=
  load_blk B Tryz.underlying35 rfl (by rw [wsCl_size h]; exact world_info)
set_option maxRecDepth 100000 in
set_option maxHeartbeats 4000000 in
theorem law_fails (src : ByteArray) (n : Nat) (e : Int) (W : World) (hs : src.size ≤ 1000000) (hG : LibG W.heap.size W) (hv : readV src.data.toList = (zeroW, n, e)) :
    Calls Tryz.prog 17 #[.string src, .int .i64 (n : Nat), .int .i64 e] W (Ret (.bool true) W) := by
  have q1 := rep_read src W hs hG
  rw [hv] at q1
  go_enter Tryz.func17, Tryz.ntmps17
  go_wp2_with fail
  (with_reducible refine q1.mono ?_)
  rintro e1 w2 ⟨s, rfl, hW, hb, -⟩
  dsimp only at hW ⊢
  have hsz : (s.cl zeroW).toArray.size = 43 := wsCl_size rfl
  have h1c := wsCl_one (s := s) (x := zeroW)
  have LL : Hid (∀ w' g, Blk w' g 35 (s.cl zeroW).toArray → (Instr.loadAt 35 (.pointer (some ⟨g, 0, none⟩))).run Tryz.prog w' = .ok (.agg (s.cl zeroW).toArray) w') := Lib.hid (fun w' g B => whole_ld rfl B)
  have hb2 := bAl hb (.cells (s.cl zeroW).toArray 35)
  have hW2 := hW.below (bAl (bRefl w2) (.cells (s.cl zeroW).toArray 35))
  have q2 := ref_same zeroW s nilWS (w2.alloc (.cells (s.cl zeroW).toArray 35)) (hW2.more (by simp)) (wld_zero _ _) small_zero
  have BW := Blk.new w2 35 (s.cl zeroW).toArray _ rfl
  generalize (s.cl zeroW).toArray = Y at *
  clear q1 hW hW2
  iterate 16 go_step
  refine wpList_storeG (by rfl) (by rfl) (by rfl) (by rfl) (store_newW (by rw [hsz]; exact world_info) (by rw [hsz]; rfl) h1c) ?_
  simp only [Act.put]
  have hlt := BW.lt
  generalize hg : w2.heap.size = g at *
  generalize w2.alloc (.cells Y 35) = w3 at *
  go_upto_region 2 with fail
  apply wp_region_lit
  iterate 24 go_step
  refine wpList_loadG (by rfl) (by rfl) (by rfl) (LL.out _ _ BW) ?_
  simp only [Act.put]
  refine wpList_buildG (by rfl) (by rfl) (by rfl) built_zero ?_
  simp only [Act.put]
  generalize (nilWS.cl zeroW).toArray = Z at *
  go_wp2_with (go_at_call 14; (with_reducible refine q2.mono ?_); rintro e5 w5 ⟨rfl, b5⟩)
  go_ret
  exact ⟨rfl, bCall hb2 b5⟩
end Go.Proofs.YtmbopkcmbiommaaGreatDoor
