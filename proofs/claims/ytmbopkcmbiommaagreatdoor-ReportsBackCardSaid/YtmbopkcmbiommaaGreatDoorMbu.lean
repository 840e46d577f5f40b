/-
  frankinglaw59.ReportsBack, walked.
-/
import Derived.Test.YtmbopkcmbiommaaGreatDoorMbt
namespace Go.Proofs.YtmbopkcmbiommaaGreatDoor
open Go Go.RowKit

theorem print_fail {x : Wld} {t : By} {e : Int} (h : printV x = (t, e)) (he : e ≠ 0) : t = [] ∧ (e = 590 ∨ (e ≠ 590 ∧ postE x = e)) := by
  unfold printV at h
  split at h
  · split at h
    · injection h with h1 h2
      exact absurd h2.symm he
    · injection h with h1 h2
      exact ⟨h1.symm, .inl h2.symm⟩
  · injection h with h1 h2
    exact ⟨h1.symm, .inr ⟨fun h9 => postE_ne x (h2.trans h9), h2⟩⟩
theorem whole_cell {s : WS} {x : Wld} (h : x.seed.length = 32) : ∀ w' g, Blk w' g 35 (s.cl x).toArray → (Instr.loadAt 35 (.pointer (some ⟨g, 0, none⟩))).run Tryz.prog w' = .ok (.agg (s.cl x).toArray) w' := fun _ _ B => whole_ld h B
theorem few_len {x : Wld} {t : By} (h : fewW x = true) (hs : x.seed.length = 32) (hp : printV x = (t, 0)) : (⟨t.toArray⟩ : ByteArray).size ≤ 1000000 := by
  obtain ⟨ht, _, ho⟩ := print_text hp
  have h1 := text_len ho hs
  have h2 := few_room h
  show t.toArray.size ≤ _
  rw [List.size_toArray, ht]
  omega
set_option maxRecDepth 100000 in
set_option maxHeartbeats 16000000 in
theorem lw_back (s : WS) (x : Wld) (src : ByteArray) (W : World) (hx : WldAt W W.heap.size s x) (io : x.io) (hG : LibG W.heap.size W) :
    Calls Tryz.prog 5 #[.agg (s.cl x).toArray, .string src] W (Ret (.bool true) W) := by
  have hb := bAl (bRefl W) (.cells (s.cl x).toArray 35)
  have BX := Blk.new W 35 (s.cl x).toArray _ rfl
  have LL : Hid (∀ w' g, Blk w' g 35 (s.cl x).toArray → (Instr.loadAt 35 (.pointer (some ⟨g, 0, none⟩))).run Tryz.prog w' = .ok (.agg (s.cl x).toArray) w') := Lib.hid (fun _ _ B => whole_ld io.seed B)
  have hG1 : Hid (∀ w, Below W.heap.size W w → LibG w.heap.size w) := Lib.hid (fun w b => (hG.below b).more b.size)
  have qs : Hid (∀ w, Below W.heap.size W w → Calls Tryz.prog 8 #[] w (Ret (.bool true) w)) := Lib.hid (fun w b => law_sane w (hG1.out w b))
  have qf : Hid (∀ w, Below W.heap.size W w → Calls Tryz.prog 9 #[.agg (s.cl x).toArray] w (Ret (.bool (fewW x)) w)) := Lib.hid (fun w b => ref_few s x w ((hx.below b).more b.size) io.seed)
  have qp : Hid (∀ w, Below W.heap.size W w → fewW x = true → ∀ t e, printV x = (t, e) → Calls Tryz.prog 10 #[.agg (s.cl x).toArray] w (Ret (.tuple #[.string ⟨t.toArray⟩, .int .i64 e]) w)) := Lib.hid (fun w b hf t e hp => by
    have := rep_print s x w ((hx.below b).more b.size) (few_small hf io) io.byte (Nat.le_trans (few_room hf) (Nat.le_of_ble_eq_true rfl)) (hG1.out w b)
    rw [hp] at this
    exact this)
  have qc : Hid (∀ w, Below W.heap.size W w → fewW x = true → Calls Tryz.prog 15 #[.agg (s.cl x).toArray] w (Ret (.int .i64 (postE x)) w)) := Lib.hid (fun w b hf => post_check s x w ((hx.below b).more b.size) (few_small hf io))
  have qe : Hid (∀ s2 w, Below W.heap.size W w → fewW x = true → WldAt w w.heap.size s2 x → Calls Tryz.prog 14 #[.agg (s.cl x).toArray, .agg (s2.cl x).toArray] w (Ret (.bool true) w)) := Lib.hid (fun s2 w b hf h2 => ref_same x s s2 w ((hx.below b).more b.size) h2 (few_small hf io))
  obtain ⟨Y, hY⟩ : ∃ Y, Hid ((s.cl x).toArray = Y) := ⟨_, Lib.hid rfl⟩
  rw [hY.out] at hb BX LL qf qp qc qe ⊢
  clear hx hG
  go_enter Tryz.func5, Tryz.ntmps5
  go_upto_region 1 with fail
  generalize W.alloc (.cells Y 35) = w1 at *
  go_upto_region 3 with (go_at_call 8; (with_reducible refine (qs.out _ hb).mono ?_); rintro e w2 ⟨rfl, b2⟩)
  have hb2 := bCall hb b2
  have BX2 := BX.below b2 BX.lt
  clear BX b2 qs
  have hG2 := Lib.hid hb
  clear hb
  apply wp_region_lit
  refine wpList_loadG (by rfl) (by rfl) (by rfl) (LL.out _ _ BX2) ?_
  simp only [Act.put]
  cases hf : fewW x with
  | false =>
    rw [hf] at qf
    replace hf := Lib.hid hf
    go_wp2_with (go_at_call 9; (with_reducible refine (qf.out _ hb2).mono ?_); rintro e w3 ⟨rfl, b3⟩)
    go_ret
    exact ⟨rfl, bCall hb2 b3⟩
  | true =>
    rw [hf] at qf
    have hsm := few_small hf io
    have hroom := few_room hf
    replace qp := Lib.hid (fun w b => qp.out w b hf)
    replace qc := Lib.hid (fun w b => qc.out w b hf)
    replace qe := Lib.hid (fun s2 w b => qe.out s2 w b hf)
    have hfl := Lib.hid (fun t hp => few_len (t := t) hf io.seed hp)
    replace hf := Lib.hid hf
    by_cases hl : 3000 < src.size
    · have hl1 : (3000 : Int) < (src.size : Int) := by omega
      clear hl
      go_wp2_with (go_at_call 9; (with_reducible refine (qf.out _ hb2).mono ?_); rintro e w3 ⟨rfl, b3⟩)
      go_ret
      exact ⟨rfl, bCall hb2 b3⟩
    have hl1 : ¬ (3000 : Int) < (src.size : Int) := by omega
    go_upto_region 5 with (go_at_call 9; (with_reducible refine (qf.out _ hb2).mono ?_); rintro e w3 ⟨rfl, b3⟩)
    clear hl1 qf
    have hb3 := bCall hb2 b3
    have BX3 := BX2.below b3 BX2.lt
    clear BX2 hb2 b3
    obtain ⟨⟨t, e⟩, hp⟩ : ∃ p, Hid (printV x = p) := ⟨_, Lib.hid rfl⟩
    have qp1 := qp.out w3 hb3 t e hp.out
    clear qp
    apply wp_region_lit
    refine wpList_loadG (by rfl) (by rfl) (by rfl) (LL.out _ _ BX3) ?_
    simp only [Act.put]
    go_upto_region 6 with (go_at_call 10; (with_reducible refine qp1.mono ?_); rintro e w4 ⟨rfl, b4⟩)
    have hb4 := bCall hb3 b4
    have BX4 := BX3.below b4 BX3.lt
    clear BX3 hb3 b4 qp1
    by_cases he : e = 0
    · subst he
      have hrp := read_print io.byte io.seed hp.out
      have hsz := hfl.out t hp.out
      go_upto_region 7 with fail
      go_wp2_with fail
      (with_reducible refine (read_is _ (x, 0, 0) w4 (by simpa using hrp) hsz (hG1.out w4 hb4)).mono ?_)
      rintro e9 w5 ⟨s2, rfl, hW5, b5, -⟩
      dsimp only at hW5 ⊢
      have hst := store_newW (P := Tryz.prog) (w := w5) (t := 35) (ty := 35) (old := (nilWS.cl zeroW).toArray) (X := (s2.cl x).toArray) (by rw [wsCl_size io.seed]; exact world_info) (by rw [wsCl_size io.seed]; rfl) wsCl_one
      have BS := Blk.new w5 35 (s2.cl x).toArray _ rfl
      have hb5 := bAl (bCall hb4 b5) (.cells (s2.cl x).toArray 35)
      have BX5 := (BX4.below b5 BX4.lt).alloc (.cells (s2.cl x).toArray 35)
      have q5 := qe.out s2 _ hb5 ((hW5.below (bAl (bRefl w5) (.cells (s2.cl x).toArray 35))).more (show w5.heap.size ≤ (w5.alloc (.cells (s2.cl x).toArray 35)).heap.size by simp))
      have LL2 : Hid (∀ w' g, Blk w' g 35 (s2.cl x).toArray → (Instr.loadAt 35 (.pointer (some ⟨g, 0, none⟩))).run Tryz.prog w' = .ok (.agg (s2.cl x).toArray) w') := Lib.hid (fun _ _ B => whole_ld io.seed B)
      generalize (s2.cl x).toArray = Y5 at *
      clear hW5 BX4 hb4 b5 hrp hsz
      iterate 16 go_step
      refine wpList_storeG (by rfl) (by rfl) (by rfl) (by rfl) hst ?_
      simp only [Act.put]
      clear hst
      generalize hg5 : w5.heap.size = g5 at *
      generalize w5.alloc (.cells Y5 35) = w6 at *
      go_upto_region 8 with fail
      apply wp_region_lit
      iterate 19 go_step
      refine wpList_loadG (by rfl) (by rfl) (by rfl) (LL.out _ _ BX5) ?_
      simp only [Act.put]
      refine wpList_loadG (by rfl) (by rfl) (by rfl) (LL2.out _ _ BS) ?_
      simp only [Act.put]
      go_upto_region 12 with (go_at_call 14; (with_reducible refine q5.mono ?_); rintro e w7 ⟨rfl, b7⟩)
      have hb7 := bCall hb5 b7
      clear LL2 BS BX5 q5 hb5 b7
      have hvx : Hid (∃ p, readV src.data.toList = p) := Lib.hid ⟨_, rfl⟩
      obtain ⟨⟨x2, n2, e2⟩, hv⟩ := hvx.out
      clear hvx
      replace hv := Lib.hid hv
      go_wp2_with fail
      (with_reducible refine (read_is src (x2, n2, e2) w7 hv.out (by omega) (hG1.out w7 hb7)).mono ?_)
      rintro e9 w10 ⟨s3, rfl, hW10, b10, -⟩
      dsimp only at hW10 ⊢
      have hb10 := bCall hb7 b10
      by_cases he2 : e2 = 0
      · subst he2
        obtain ⟨rfl, hp2, hc2, hby2, hsd2⟩ := print_read hv.out
        obtain ⟨ht2, _, _⟩ := print_text hp2
        have hlen2 : src.data.toList.length = src.size := by rw [Array.length_toList]; rfl
        have hsm2 := read_small hv.out (by omega)
        have hrm2 : x2.room ≤ 1000000000 := by
          have := text_room x2
          rw [← ht2] at this
          omega
        have hst := store_newW (P := Tryz.prog) (w := w10) (t := 35) (ty := 35) (old := (nilWS.cl zeroW).toArray) (X := (s3.cl x2).toArray) (by rw [wsCl_size hsd2]; exact world_info) (by rw [wsCl_size hsd2]; rfl) wsCl_one
        have BR := Blk.new w10 35 (s3.cl x2).toArray _ rfl
        have hb11 := bAl hb10 (.cells (s3.cl x2).toArray 35)
        have hW11 := (hW10.below (bAl (bRefl w10) (.cells (s3.cl x2).toArray 35))).more (show w10.heap.size ≤ (w10.alloc (.cells (s3.cl x2).toArray 35)).heap.size by simp)
        have LL2 : Hid (∀ w' g, Blk w' g 35 (s3.cl x2).toArray → (Instr.loadAt 35 (.pointer (some ⟨g, 0, none⟩))).run Tryz.prog w' = .ok (.agg (s3.cl x2).toArray) w') := Lib.hid (fun _ _ B => whole_ld hsd2 B)
        have qq1 : Hid (∀ w, Below W.heap.size W w → WldAt w w.heap.size s3 x2 → Calls Tryz.prog 10 #[.agg (s3.cl x2).toArray] w (Ret (.tuple #[.string src, .int .i64 0]) w)) := Lib.hid (fun w b hw => by
          have := rep_print s3 x2 w hw hsm2 hby2 hrm2 (hG1.out w b)
          rw [hp2, show (⟨src.data.toList.toArray⟩ : ByteArray) = src by simp] at this
          exact this)
        have qq2 : Hid (∀ w, WldAt w w.heap.size s3 x2 → Calls Tryz.prog 15 #[.agg (s3.cl x2).toArray] w (Ret (.int .i64 0) w)) := Lib.hid (fun w hw => by
          have := post_check s3 x2 w hw hsm2
          rw [hc2] at this
          exact this)
        have hWk : Hid (∀ w, Below (w10.alloc (.cells (s3.cl x2).toArray 35)).heap.size (w10.alloc (.cells (s3.cl x2).toArray 35)) w → WldAt w w.heap.size s3 x2) := Lib.hid (fun w b => (hW11.below b).more b.size)
        generalize (s3.cl x2).toArray = Y2 at *
        clear hp2 hc2 hby2 hlen2 hsm2 hrm2 ht2 hsd2 hW10 hW11 hv
        iterate 16 go_step
        refine wpList_storeG (by rfl) (by rfl) (by rfl) (by rfl) hst ?_
        simp only [Act.put]
        clear hst
        generalize hg10 : w10.heap.size = g10 at *
        generalize w10.alloc (.cells Y2 35) = w11 at *
        go_upto_region 15 with fail
        apply wp_region_lit
        refine wpList_loadG (by rfl) (by rfl) (by rfl) (LL2.out _ _ BR) ?_
        simp only [Act.put]
        go_upto_region 16 with (go_at_call 10; (with_reducible refine (qq1.out _ hb11 (hWk.out _ (bRefl _))).mono ?_); rintro e w12 ⟨rfl, b12⟩)
        have BR12 := BR.below b12 BR.lt
        apply wp_region_lit
        iterate 31 go_step
        refine wpList_loadG (by rfl) (by rfl) (by rfl) (LL2.out _ _ BR12) ?_
        simp only [Act.put]
        go_wp2_with (go_at_call 15; (with_reducible refine (qq2.out _ (hWk.out _ b12)).mono ?_); rintro e w13 ⟨rfl, b13⟩)
        go_ret
        exact ⟨rfl, bCall (bCall hb11 b12) b13⟩
      · obtain ⟨rfl, h590⟩ := read_no hv.out he2
        have hst := store_newW (P := Tryz.prog) (w := w10) (t := 35) (ty := 35) (old := (nilWS.cl zeroW).toArray) (X := (s3.cl zeroW).toArray) (by rw [wsCl_size rfl]; exact world_info) (by rw [wsCl_size rfl]; rfl) wsCl_one
        have BR := Blk.new w10 35 (s3.cl zeroW).toArray _ rfl
        have hb11 := bAl hb10 (.cells (s3.cl zeroW).toArray 35)
        have hW11 := (hW10.below (bAl (bRefl w10) (.cells (s3.cl zeroW).toArray 35))).more (show w10.heap.size ≤ (w10.alloc (.cells (s3.cl zeroW).toArray 35)).heap.size by simp)
        have LL2 : Hid (∀ w' g, Blk w' g 35 (s3.cl zeroW).toArray → (Instr.loadAt 35 (.pointer (some ⟨g, 0, none⟩))).run Tryz.prog w' = .ok (.agg (s3.cl zeroW).toArray) w') := Lib.hid (fun _ _ B => whole_ld rfl B)
        have q2 := ref_same zeroW s3 nilWS _ hW11 (wld_zero _ _) small_zero
        generalize (s3.cl zeroW).toArray = Y2 at *
        clear hW10 hW11 hv
        iterate 16 go_step
        refine wpList_storeG (by rfl) (by rfl) (by rfl) (by rfl) hst ?_
        simp only [Act.put]
        clear hst
        generalize hg10 : w10.heap.size = g10 at *
        generalize w10.alloc (.cells Y2 35) = w11 at *
        have hne2 : (e2 != 0) = true := by simpa using he2
        have hn0 : (0 : Int) ≤ (n2 : Nat) := by omega
        go_upto_region 14 with fail
        apply wp_region_lit
        refine wpList_loadG (by rfl) (by rfl) (by rfl) (LL2.out _ _ BR) ?_
        simp only [Act.put]
        refine wpList_buildG (by rfl) (by rfl) (by rfl) built_zero ?_
        simp only [Act.put]
        generalize (nilWS.cl zeroW).toArray = Z at *
        by_cases h5 : e2 = 590
        · have hp5 : (0 : Int) < (n2 : Nat) := by have := h590.1 h5; omega
          subst h5
          clear h590 he2 hne2
          go_wp2_with (go_at_call 14; (with_reducible refine q2.mono ?_); rintro e w12 ⟨rfl, b12⟩)
          go_ret
          refine ⟨ret_bool (by first | exact decide_eq_true (by omega) | (simp; omega)), bCall hb11 b12⟩
        · have hp5 : ¬ (0 : Int) < (n2 : Nat) := fun h => h5 (h590.2 (by omega))
          have h59 : (e2 == 590) = false := by simpa using h5
          clear h590 he2 hne2 h5
          go_wp2_with (go_at_call 14; (with_reducible refine q2.mono ?_); rintro e w12 ⟨rfl, b12⟩)
          go_ret
          refine ⟨ret_bool (by first | exact decide_eq_true (by omega) | (simp; omega)), bCall hb11 b12⟩
    · obtain ⟨rfl, h59⟩ := print_fail hp.out he
      have hne0 : (e == 0) = false := by simpa using he
      rcases h59 with rfl | ⟨h59, hpe⟩
      · go_upto_region 12 with fail
        have hvx : Hid (∃ p, readV src.data.toList = p) := Lib.hid ⟨_, rfl⟩
        obtain ⟨⟨x2, n2, e2⟩, hv⟩ := hvx.out
        clear hvx
        replace hv := Lib.hid hv
        go_wp2_with fail
        (with_reducible refine (read_is src (x2, n2, e2) w4 hv.out (by omega) (hG1.out w4 hb4)).mono ?_)
        rintro e9 w10 ⟨s3, rfl, hW10, b10, -⟩
        dsimp only at hW10 ⊢
        have hb10 := bCall hb4 b10
        by_cases he2 : e2 = 0
        · subst he2
          obtain ⟨rfl, hp2, hc2, hby2, hsd2⟩ := print_read hv.out
          obtain ⟨ht2, _, _⟩ := print_text hp2
          have hlen2 : src.data.toList.length = src.size := by rw [Array.length_toList]; rfl
          have hsm2 := read_small hv.out (by omega)
          have hrm2 : x2.room ≤ 1000000000 := by
            have := text_room x2
            rw [← ht2] at this
            omega
          have hst := store_newW (P := Tryz.prog) (w := w10) (t := 35) (ty := 35) (old := (nilWS.cl zeroW).toArray) (X := (s3.cl x2).toArray) (by rw [wsCl_size hsd2]; exact world_info) (by rw [wsCl_size hsd2]; rfl) wsCl_one
          have BR := Blk.new w10 35 (s3.cl x2).toArray _ rfl
          have hb11 := bAl hb10 (.cells (s3.cl x2).toArray 35)
          have hW11 := (hW10.below (bAl (bRefl w10) (.cells (s3.cl x2).toArray 35))).more (show w10.heap.size ≤ (w10.alloc (.cells (s3.cl x2).toArray 35)).heap.size by simp)
          have LL2 : Hid (∀ w' g, Blk w' g 35 (s3.cl x2).toArray → (Instr.loadAt 35 (.pointer (some ⟨g, 0, none⟩))).run Tryz.prog w' = .ok (.agg (s3.cl x2).toArray) w') := Lib.hid (fun _ _ B => whole_ld hsd2 B)
          have qq1 : Hid (∀ w, Below W.heap.size W w → WldAt w w.heap.size s3 x2 → Calls Tryz.prog 10 #[.agg (s3.cl x2).toArray] w (Ret (.tuple #[.string src, .int .i64 0]) w)) := Lib.hid (fun w b hw => by
            have := rep_print s3 x2 w hw hsm2 hby2 hrm2 (hG1.out w b)
            rw [hp2, show (⟨src.data.toList.toArray⟩ : ByteArray) = src by simp] at this
            exact this)
          have qq2 : Hid (∀ w, WldAt w w.heap.size s3 x2 → Calls Tryz.prog 15 #[.agg (s3.cl x2).toArray] w (Ret (.int .i64 0) w)) := Lib.hid (fun w hw => by
            have := post_check s3 x2 w hw hsm2
            rw [hc2] at this
            exact this)
          have hWk : Hid (∀ w, Below (w10.alloc (.cells (s3.cl x2).toArray 35)).heap.size (w10.alloc (.cells (s3.cl x2).toArray 35)) w → WldAt w w.heap.size s3 x2) := Lib.hid (fun w b => (hW11.below b).more b.size)
          generalize (s3.cl x2).toArray = Y2 at *
          clear hp2 hc2 hby2 hlen2 hsm2 hrm2 ht2 hsd2 hW10 hW11 hv
          iterate 16 go_step
          refine wpList_storeG (by rfl) (by rfl) (by rfl) (by rfl) hst ?_
          simp only [Act.put]
          clear hst
          generalize hg10 : w10.heap.size = g10 at *
          generalize w10.alloc (.cells Y2 35) = w11 at *
          go_upto_region 15 with fail
          apply wp_region_lit
          refine wpList_loadG (by rfl) (by rfl) (by rfl) (LL2.out _ _ BR) ?_
          simp only [Act.put]
          go_upto_region 16 with (go_at_call 10; (with_reducible refine (qq1.out _ hb11 (hWk.out _ (bRefl _))).mono ?_); rintro e w12 ⟨rfl, b12⟩)
          have BR12 := BR.below b12 BR.lt
          apply wp_region_lit
          iterate 31 go_step
          refine wpList_loadG (by rfl) (by rfl) (by rfl) (LL2.out _ _ BR12) ?_
          simp only [Act.put]
          go_wp2_with (go_at_call 15; (with_reducible refine (qq2.out _ (hWk.out _ b12)).mono ?_); rintro e w13 ⟨rfl, b13⟩)
          go_ret
          exact ⟨rfl, bCall (bCall hb11 b12) b13⟩
        · obtain ⟨rfl, h590⟩ := read_no hv.out he2
          have hst := store_newW (P := Tryz.prog) (w := w10) (t := 35) (ty := 35) (old := (nilWS.cl zeroW).toArray) (X := (s3.cl zeroW).toArray) (by rw [wsCl_size rfl]; exact world_info) (by rw [wsCl_size rfl]; rfl) wsCl_one
          have BR := Blk.new w10 35 (s3.cl zeroW).toArray _ rfl
          have hb11 := bAl hb10 (.cells (s3.cl zeroW).toArray 35)
          have hW11 := (hW10.below (bAl (bRefl w10) (.cells (s3.cl zeroW).toArray 35))).more (show w10.heap.size ≤ (w10.alloc (.cells (s3.cl zeroW).toArray 35)).heap.size by simp)
          have LL2 : Hid (∀ w' g, Blk w' g 35 (s3.cl zeroW).toArray → (Instr.loadAt 35 (.pointer (some ⟨g, 0, none⟩))).run Tryz.prog w' = .ok (.agg (s3.cl zeroW).toArray) w') := Lib.hid (fun _ _ B => whole_ld rfl B)
          have q2 := ref_same zeroW s3 nilWS _ hW11 (wld_zero _ _) small_zero
          generalize (s3.cl zeroW).toArray = Y2 at *
          clear hW10 hW11 hv
          iterate 16 go_step
          refine wpList_storeG (by rfl) (by rfl) (by rfl) (by rfl) hst ?_
          simp only [Act.put]
          clear hst
          generalize hg10 : w10.heap.size = g10 at *
          generalize w10.alloc (.cells Y2 35) = w11 at *
          have hne2 : (e2 != 0) = true := by simpa using he2
          have hn0 : (0 : Int) ≤ (n2 : Nat) := by omega
          go_upto_region 14 with fail
          apply wp_region_lit
          refine wpList_loadG (by rfl) (by rfl) (by rfl) (LL2.out _ _ BR) ?_
          simp only [Act.put]
          refine wpList_buildG (by rfl) (by rfl) (by rfl) built_zero ?_
          simp only [Act.put]
          generalize (nilWS.cl zeroW).toArray = Z at *
          by_cases h5 : e2 = 590
          · have hp5 : (0 : Int) < (n2 : Nat) := by have := h590.1 h5; omega
            subst h5
            clear h590 he2 hne2
            go_wp2_with (go_at_call 14; (with_reducible refine q2.mono ?_); rintro e w12 ⟨rfl, b12⟩)
            go_ret
            refine ⟨ret_bool (by first | exact decide_eq_true (by omega) | (simp; omega)), bCall hb11 b12⟩
          · have hp5 : ¬ (0 : Int) < (n2 : Nat) := fun h => h5 (h590.2 (by omega))
            have h59 : (e2 == 590) = false := by simpa using h5
            clear h590 he2 hne2 h5
            go_wp2_with (go_at_call 14; (with_reducible refine q2.mono ?_); rintro e w12 ⟨rfl, b12⟩)
            go_ret
            refine ⟨ret_bool (by first | exact decide_eq_true (by omega) | (simp; omega)), bCall hb11 b12⟩
      · have q4 := qc.out w4 hb4
        rw [hpe] at q4
        have hne1 : (e != 590) = true := by simpa using h59
        go_upto_region 10 with fail
        apply wp_region_lit
        iterate 15 go_step
        refine wpList_loadG (by rfl) (by rfl) (by rfl) (LL.out _ _ BX4) ?_
        simp only [Act.put]
        go_upto_region 12 with (go_at_call 15; (with_reducible refine q4.mono ?_); rintro e w5 ⟨rfl, b5⟩)
        have hb5 := bCall hb4 b5
        have hvx : Hid (∃ p, readV src.data.toList = p) := Lib.hid ⟨_, rfl⟩
        obtain ⟨⟨x2, n2, e2⟩, hv⟩ := hvx.out
        clear hvx
        replace hv := Lib.hid hv
        go_wp2_with fail
        (with_reducible refine (read_is src (x2, n2, e2) w5 hv.out (by omega) (hG1.out w5 hb5)).mono ?_)
        rintro e9 w10 ⟨s3, rfl, hW10, b10, -⟩
        dsimp only at hW10 ⊢
        have hb10 := bCall hb5 b10
        by_cases he2 : e2 = 0
        · subst he2
          obtain ⟨rfl, hp2, hc2, hby2, hsd2⟩ := print_read hv.out
          obtain ⟨ht2, _, _⟩ := print_text hp2
          have hlen2 : src.data.toList.length = src.size := by rw [Array.length_toList]; rfl
          have hsm2 := read_small hv.out (by omega)
          have hrm2 : x2.room ≤ 1000000000 := by
            have := text_room x2
            rw [← ht2] at this
            omega
          have hst := store_newW (P := Tryz.prog) (w := w10) (t := 35) (ty := 35) (old := (nilWS.cl zeroW).toArray) (X := (s3.cl x2).toArray) (by rw [wsCl_size hsd2]; exact world_info) (by rw [wsCl_size hsd2]; rfl) wsCl_one
          have BR := Blk.new w10 35 (s3.cl x2).toArray _ rfl
          have hb11 := bAl hb10 (.cells (s3.cl x2).toArray 35)
          have hW11 := (hW10.below (bAl (bRefl w10) (.cells (s3.cl x2).toArray 35))).more (show w10.heap.size ≤ (w10.alloc (.cells (s3.cl x2).toArray 35)).heap.size by simp)
          have LL2 : Hid (∀ w' g, Blk w' g 35 (s3.cl x2).toArray → (Instr.loadAt 35 (.pointer (some ⟨g, 0, none⟩))).run Tryz.prog w' = .ok (.agg (s3.cl x2).toArray) w') := Lib.hid (fun _ _ B => whole_ld hsd2 B)
          have qq1 : Hid (∀ w, Below W.heap.size W w → WldAt w w.heap.size s3 x2 → Calls Tryz.prog 10 #[.agg (s3.cl x2).toArray] w (Ret (.tuple #[.string src, .int .i64 0]) w)) := Lib.hid (fun w b hw => by
            have := rep_print s3 x2 w hw hsm2 hby2 hrm2 (hG1.out w b)
            rw [hp2, show (⟨src.data.toList.toArray⟩ : ByteArray) = src by simp] at this
            exact this)
          have qq2 : Hid (∀ w, WldAt w w.heap.size s3 x2 → Calls Tryz.prog 15 #[.agg (s3.cl x2).toArray] w (Ret (.int .i64 0) w)) := Lib.hid (fun w hw => by
            have := post_check s3 x2 w hw hsm2
            rw [hc2] at this
            exact this)
          have hWk : Hid (∀ w, Below (w10.alloc (.cells (s3.cl x2).toArray 35)).heap.size (w10.alloc (.cells (s3.cl x2).toArray 35)) w → WldAt w w.heap.size s3 x2) := Lib.hid (fun w b => (hW11.below b).more b.size)
          generalize (s3.cl x2).toArray = Y2 at *
          clear hp2 hc2 hby2 hlen2 hsm2 hrm2 ht2 hsd2 hW10 hW11 hv
          iterate 16 go_step
          refine wpList_storeG (by rfl) (by rfl) (by rfl) (by rfl) hst ?_
          simp only [Act.put]
          clear hst
          generalize hg10 : w10.heap.size = g10 at *
          generalize w10.alloc (.cells Y2 35) = w11 at *
          go_upto_region 15 with fail
          apply wp_region_lit
          refine wpList_loadG (by rfl) (by rfl) (by rfl) (LL2.out _ _ BR) ?_
          simp only [Act.put]
          go_upto_region 16 with (go_at_call 10; (with_reducible refine (qq1.out _ hb11 (hWk.out _ (bRefl _))).mono ?_); rintro e w12 ⟨rfl, b12⟩)
          have BR12 := BR.below b12 BR.lt
          apply wp_region_lit
          iterate 31 go_step
          refine wpList_loadG (by rfl) (by rfl) (by rfl) (LL2.out _ _ BR12) ?_
          simp only [Act.put]
          go_wp2_with (go_at_call 15; (with_reducible refine (qq2.out _ (hWk.out _ b12)).mono ?_); rintro e w13 ⟨rfl, b13⟩)
          go_ret
          exact ⟨rfl, bCall (bCall hb11 b12) b13⟩
        · obtain ⟨rfl, h590⟩ := read_no hv.out he2
          have hst := store_newW (P := Tryz.prog) (w := w10) (t := 35) (ty := 35) (old := (nilWS.cl zeroW).toArray) (X := (s3.cl zeroW).toArray) (by rw [wsCl_size rfl]; exact world_info) (by rw [wsCl_size rfl]; rfl) wsCl_one
          have BR := Blk.new w10 35 (s3.cl zeroW).toArray _ rfl
          have hb11 := bAl hb10 (.cells (s3.cl zeroW).toArray 35)
          have hW11 := (hW10.below (bAl (bRefl w10) (.cells (s3.cl zeroW).toArray 35))).more (show w10.heap.size ≤ (w10.alloc (.cells (s3.cl zeroW).toArray 35)).heap.size by simp)
          have LL2 : Hid (∀ w' g, Blk w' g 35 (s3.cl zeroW).toArray → (Instr.loadAt 35 (.pointer (some ⟨g, 0, none⟩))).run Tryz.prog w' = .ok (.agg (s3.cl zeroW).toArray) w') := Lib.hid (fun _ _ B => whole_ld rfl B)
          have q2 := ref_same zeroW s3 nilWS _ hW11 (wld_zero _ _) small_zero
          generalize (s3.cl zeroW).toArray = Y2 at *
          clear hW10 hW11 hv
          iterate 16 go_step
          refine wpList_storeG (by rfl) (by rfl) (by rfl) (by rfl) hst ?_
          simp only [Act.put]
          clear hst
          generalize hg10 : w10.heap.size = g10 at *
          generalize w10.alloc (.cells Y2 35) = w11 at *
          have hne2 : (e2 != 0) = true := by simpa using he2
          have hn0 : (0 : Int) ≤ (n2 : Nat) := by omega
          go_upto_region 14 with fail
          apply wp_region_lit
          refine wpList_loadG (by rfl) (by rfl) (by rfl) (LL2.out _ _ BR) ?_
          simp only [Act.put]
          refine wpList_buildG (by rfl) (by rfl) (by rfl) built_zero ?_
          simp only [Act.put]
          generalize (nilWS.cl zeroW).toArray = Z at *
          by_cases h5 : e2 = 590
          · have hp5 : (0 : Int) < (n2 : Nat) := by have := h590.1 h5; omega
            subst h5
            clear h590 he2 hne2
            go_wp2_with (go_at_call 14; (with_reducible refine q2.mono ?_); rintro e w12 ⟨rfl, b12⟩)
            go_ret
            refine ⟨ret_bool (by first | exact decide_eq_true (by omega) | (simp; omega)), bCall hb11 b12⟩
          · have hp5 : ¬ (0 : Int) < (n2 : Nat) := fun h => h5 (h590.2 (by omega))
            have h59 : (e2 == 590) = false := by simpa using h5
            clear h590 he2 hne2 h5
            go_wp2_with (go_at_call 14; (with_reducible refine q2.mono ?_); rintro e w12 ⟨rfl, b12⟩)
            go_ret
            refine ⟨ret_bool (by first | exact decide_eq_true (by omega) | (simp; omega)), bCall hb11 b12⟩
end Go.Proofs.YtmbopkcmbiommaaGreatDoor
