/- reports.printer: put; walked. -/
import Derived.Test.YtmbopkcmbiommaaGreatDoorRbg
import Derived.Test.YtmbopkcmbiommaaGreatDoorRbo
set_option maxRecDepth 1000000
set_option maxHeartbeats 16000000
namespace Go.Proofs.YtmbopkcmbiommaaGreatDoor
open Go Go.RowKit
theorem ix_dig (d : List Nat) (hd : d.length = 32) (j c : Nat) (hc : d[j]? = some c) (w : World) : (Instr.index 32 (.agg (byts d).toArray) (.int .i64 (j : Nat))).run Tryz.prog w = .ok (.int .u8 (c : Nat)) w := by
  have hj : j < 32 := by rw [← hd]; exact (List.getElem?_eq_some_iff.1 hc).1
  have a5 := Tryz.isAgg5
  have z5 := Tryz.sizeOf5
  have e : (byts d)[j]? = some (.int .u8 (c : Nat)) := byts_at hc
  have h1 : (0 : Int) ≤ (j : Int) ∧ (j : Int) < 32 := by omega
  simp [Instr.index, asIntOf, run_underlying Tryz.underlying32, part, a5, z5, hj, e, go_sem]
theorem and_all : (List.range 256).all (fun c => decide (bits BinOp.and IntKind.u8 ((c : Nat) : Int) 15 = ((c % 16 : Nat) : Int))) = true := by kernel_rfl
theorem and_hex {c : Nat} (h : c < 256) : bits BinOp.and IntKind.u8 (c : Int) 15 = ((c % 16 : Nat) : Int) := of_decide_eq_true (List.all_eq_true.1 and_all c (List.mem_range.2 h))
theorem hex_digit (n : Nat) (h : n < 16) (i : Int) (hi : i = (n : Nat)) {p} : ({ data := #[48, 49, 50, 51, 52, 53, 54, 55, 56, 57, 97, 98, 99, 100, 101, 102] } : ByteArray)[i.toNat]'p = hexC n := by
  subst hi
  have : n = 0 ∨ n = 1 ∨ n = 2 ∨ n = 3 ∨ n = 4 ∨ n = 5 ∨ n = 6 ∨ n = 7 ∨ n = 8 ∨ n = 9 ∨ n = 10 ∨ n = 11 ∨ n = 12 ∨ n = 13 ∨ n = 14 ∨ n = 15 := by omega
  rcases this with rfl | rfl | rfl | rfl | rfl | rfl | rfl | rfl | rfl | rfl | rfl | rfl | rfl | rfl | rfl | rfl <;> rfl
theorem hexT_take {l : List Nat} {k : Nat} {x : Nat} (h : l[k]? = some x) : hexT (l.take (k + 1)) = hexT (l.take k) ++ [hexC (x / 16), hexC (x % 16)] := by
  rw [take_more h]
  unfold hexT
  rw [List.flatMap_append]
  simp
theorem pr_put (b g : Nat) (l : By) (word : ByteArray) (items : List Itm) (w : World) (h : PAt w b l) (hB : Blk w g 20 (items.map Itm.val).toArray) (hg : g ≠ b) (hi : ∀ x ∈ items, x.At w b) (hl : l.length + word.size + itmsW items + 1 ≤ 1000000000) (hn : items.length ≤ 100) (hG : LibG b w) :
    Calls Tryz.prog 43 #[.pointer (some ⟨b, 0, none⟩), .string word, .slice (some ⟨g, 0, none⟩) items.length items.length] w (PPost (items.all Itm.good) b (l ++ word.data.toList ++ itmsT items ++ [10]) w) := by
  have hws : word.data.toList.length = word.size := by rw [Array.length_toList]; rfl
  have hmm := @run_makeMap Tryz.prog
  have hres : Hid (∀ ok : Bool, items.all Itm.good = ok → ok = false → ∀ w', PKeep b w w' → PPost (items.all Itm.good) b (l ++ word.data.toList ++ itmsT items ++ [10]) w PanW w') := Lib.hid (fun ok h1 h2 w' k => PPost.no (h1.trans h2) k)
  go_enter Tryz.func43, Tryz.ntmps43
  go_wp2_with (go_at_call 41; (with_reducible refine (pr_str b l word w h (by omega)).mono ?_); rintro e w1 ⟨⟨v1, rfl⟩, h1, k1⟩)
  go_loopw [23] (fun i wr => ∃ k : Nat, k ≤ items.length ∧ i = .int .i64 k ∧ Hid (PAt wr b (l ++ word.data.toList ++ itmsT (items.take k))) ∧ Hid (PKeep b w wr) ∧ Hid ((items.take k).all Itm.good = true)) (fun i _ => items.length - (intOf i).toNat)
  case atStart => exact ⟨0, Nat.zero_le _, rfl, Lib.hid (by rw [List.take_zero]; unfold itmsT; simpa using h1), Lib.hid k1, Lib.hid rfl⟩
  case round =>
    clear h1 k1 h
    obtain ⟨k, hkn, rfl, hP, hK, hgd⟩ := hrel
    by_cases hlt : k < items.length
    · obtain ⟨x, hx⟩ : ∃ x, Hid (items[k]? = some x) := ⟨_, Lib.hid (List.getElem?_eq_getElem hlt)⟩
      have B1 := hK.out.blk hB hg (by decide)
      have d0 : wr.cell? ⟨g, k, none⟩ = some x.val := by rw [B1.cell, List.getElem?_toArray, List.getElem?_map, hx.out]; rfl
      have hxA := hi x (List.mem_of_getElem? hx.out)
      have hG1 := Lib.hid (hG.below hK.out.bl)
      have hlen : l.length + word.data.toList.length + (itmsT (items.take k)).length + x.wt + 1 ≤ 1000000000 := by
        have h1 := itmsT_len (w := w) (b := b) hgd.out (fun y hy => hi y (List.mem_of_mem_take hy))
        have h2 := itmsW_take items k x hx.out
        omega
      have i0 : (0 : Int) ≤ (k : Int) := by omega
      have i1 : (k : Int) < (items.length : Int) := by omega
      have hmore : Hid (∀ wf, PAt wf b ((l ++ word.data.toList ++ itmsT (items.take k)) ++ x.txt) → PAt wf b (l ++ word.data.toList ++ itmsT (items.take (k + 1)))) := Lib.hid (fun wf hf => by rw [itmsT_more hx.out, ← List.append_assoc]; exact hf)
      have hgood : Hid (x.good = true → (items.take (k + 1)).all Itm.good = true) := Lib.hid (fun hg2 => all_more hx.out hgd.out hg2)
      have hbad : Hid (¬ x.good = true → items.all Itm.good = false) := Lib.hid (fun hb => all_less hx.out hb)
      have hcur : (l ++ word.data.toList ++ itmsT (items.take k)).length = l.length + word.data.toList.length + (itmsT (items.take k)).length := by rw [List.length_append, List.length_append]
      generalize l ++ word.data.toList ++ itmsT (items.take k) = cur at *
      clear B1 hgd
      cases x with
      | num n =>
        change wr.cell? ⟨g, k, none⟩ = some (.iface 3 (.int .i64 n)) at d0
        have ta := as_int n
        by_cases hok : okN n = true
        · have hnl : cur.length + (numT n).length ≤ 1000000000 := by have := numT_len hok; have h9 : (Itm.num n).wt = 15 := rfl; omega
          have q := number_yes b cur n wr hP.out hnl hG1.out hok
          have hok := Lib.hid hok
          clear hnl
          go_wp2_with (go_at_call 79; (with_reducible refine q.mono ?_); rintro e w2 ⟨rfl, h2, k2⟩)
          exact ⟨⟨k + 1, by omega, by go_num, Lib.hid (hmore.out _ h2), Lib.hid (hK.out.trans k2), Lib.hid (hgood.out hok.out)⟩, by simp [intOf]; omega⟩
        · have q := number_no b n wr hok
          have hok := Lib.hid hok
          go_wp2_with (go_at_call 79; (with_reducible refine q.mono ?_); rintro e w2 ⟨h9, k2⟩; unfold PanW at h9; subst h9)
          exact ⟨rfl, hres.out _ rfl (hbad.out hok.out) _ (hK.out.trans k2)⟩
      | flag y =>
        change wr.cell? ⟨g, k, none⟩ = some (.iface 4 (.bool y)) at d0
        have ta := as_b0 y
        have tb := as_b1 y
        obtain ⟨w2, m1, m2, m3⟩ := flag_map wr
        have m4 := m3 y
        have hP2 := Lib.hid (hP.out.of_below m2)
        have kk := Lib.hid (PKeep.of m2 (Nat.le_of_lt hP.out.lt) rfl)
        have hnl : cur.length + (numT (flagI y)).length ≤ 1000000000 := by have := numT_len (flagI_ok y); have h9 : (Itm.flag y).wt = 15 := rfl; omega
        have q := number_yes b cur (flagI y) w2 hP2.out hnl (hG1.out.below kk.out.bl) (flagI_ok y)
        clear hnl m3
        replace hmore : Hid (∀ wf, PAt wf b (cur ++ numT (flagI y)) → PAt wf b (l ++ word.data.toList ++ itmsT (items.take (k + 1)))) := Lib.hid (fun wf hf => hmore.out wf hf)
        generalize flagI y = fy at *
        go_wp2_with (first | (refine wpList_insertG rfl _ _ _ 154 rfl rfl rfl rfl m1 ?_) | (go_at_call 79; (with_reducible refine q.mono ?_); rintro e w3 ⟨rfl, h2, k2⟩))
        exact ⟨⟨k + 1, by omega, by go_num, Lib.hid (hmore.out _ h2), Lib.hid ((hK.out.trans kk.out).trans k2), Lib.hid (hgood.out rfl)⟩, by simp [intOf]; omega⟩
      | nums A c xs =>
        obtain ⟨hR, hxn⟩ := hxA
        change wr.cell? ⟨g, k, none⟩ = some (.iface 25 (.slice A xs.length c)) at d0
        have ta := as_l0 (.slice A xs.length c)
        have tb := as_l1 (.slice A xs.length c)
        have tc := as_l2 (.slice A xs.length c)
        go_wp2_with fail
        clear ta tb tc d0
        have hRh := Lib.hid hR
        clear hR
        obtain ⟨wo, rfl⟩ : ∃ w, w = wr := ⟨_, rfl⟩
        go_loopw [48] (fun i wv => ∃ j : Nat, j ≤ xs.length ∧ i = .int .i64 j ∧ Hid (PAt wv b (cur ++ numsT (xs.take j))) ∧ Hid (PKeep b wo wv) ∧ Hid ((xs.take j).all okN = true)) (fun i _ => xs.length - (intOf i).toNat)
        case atStart => exact ⟨0, Nat.zero_le _, rfl, Lib.hid (by rw [List.take_zero]; unfold numsT; simpa using hP.out), Lib.hid (PKeep.refl _ _), Lib.hid rfl⟩
        case round =>
          obtain ⟨j, hjn, rfl, hP2, hK2, hgd2⟩ := hrel
          by_cases hjt : j < xs.length
          · obtain ⟨n, hnx⟩ : ∃ n, Hid (xs[j]? = some n) := ⟨_, Lib.hid (List.getElem?_eq_getElem hjt)⟩
            obtain ⟨bb, off, rfl, hbb, hc⟩ := ((hRh.out.below hK.out.bl).below hK2.out.bl).2 (by omega)
            have e0 := hc j _ (ints_at hnx.out)
            clear hc
            have i2 : (0 : Int) ≤ (j : Int) := by omega
            have i3 : (j : Int) < (xs.length : Int) := by omega
            have hG2 := hG1.out.below hK2.out.bl
            by_cases hok : okN n = true
            · have hnl : (cur ++ numsT (xs.take j)).length + (numT n).length ≤ 1000000000 := by
                have h1 := numT_len hok
                have h2 := numsT_fit hgd2.out
                have h3 : (Itm.nums (some ⟨bb, off, none⟩) c xs).wt = 15 * xs.length := rfl
                rw [List.length_take] at h2
                rw [List.length_append]
                omega
              have q := number_yes b (cur ++ numsT (xs.take j)) n wr hP2.out hnl hG2 hok
              have hok := Lib.hid hok
              clear hnl
              go_wp2_with (go_at_call 79; (with_reducible refine q.mono ?_); rintro e w2 ⟨rfl, h2, k2⟩)
              exact ⟨⟨j + 1, by omega, by go_num, Lib.hid (by rw [numsT_take hnx.out, ← List.append_assoc]; exact h2), Lib.hid (hK2.out.trans k2), Lib.hid (all_more hnx.out hgd2.out hok.out)⟩, by simp [intOf]; omega⟩
            · have q := number_no b n wr hok
              have hok := Lib.hid hok
              go_wp2_with (go_at_call 79; (with_reducible refine q.mono ?_); rintro e w2 ⟨h9, k2⟩; unfold PanW at h9; subst h9)
              exact ⟨rfl, hres.out _ rfl (hbad.out (fun h9 => by rw [show (Itm.nums (some ⟨bb, off, none⟩) c xs).good = xs.all okN from rfl, all_less hnx.out hok.out] at h9; cases h9)) _ ((hK.out.trans hK2.out).trans k2)⟩
          · have hj : Hid (xs.take j = xs) := Lib.hid (List.take_of_length_le (by omega))
            go_wp2_with fail
            exact ⟨⟨k + 1, by omega, by go_num, Lib.hid (hmore.out _ (by have := hP2.out; rw [hj.out] at this; exact this)), Lib.hid (hK.out.trans hK2.out), Lib.hid (hgood.out (by have := hgd2.out; rw [hj.out] at this; exact this))⟩, by simp [intOf]; omega⟩
      | seed d =>
        obtain ⟨hd1, hd2⟩ := hxA
        change wr.cell? ⟨g, k, none⟩ = some (.iface 32 (.agg (byts d).toArray)) at d0
        have hbl : (byts d).length = 32 := by rw [byts_length, hd1]
        have ta := as_d0 (.agg (byts d).toArray)
        have tb := as_d1 (.agg (byts d).toArray)
        have tc := as_d2 (.agg (byts d).toArray)
        have td := as_d3 (.agg (byts d).toArray)
        have hid : Hid (∀ (j : Nat) (c : Nat), d[j]? = some c → ∀ w, (Instr.index 32 (.agg (byts d).toArray) (.int .i64 (j : Nat))).run Tryz.prog w = .ok (.int .u8 (c : Nat)) w) := Lib.hid (fun j c h w => ix_dig d hd1 j c h w)
        have hsz : Hid ((byts d).toArray.size = 32) := Lib.hid (by rw [List.size_toArray]; exact hbl)
        have h1c : Hid (∀ v ∈ (byts d).toArray.toList, v.oneCell' = true) := Lib.hid byts_oneCell
        clear hbl
        generalize (byts d).toArray = DA at *
        go_upto_region 19 with fail
        apply wp_region_lit
        iterate 3 go_step
        refine wpList_storeG (by rfl) (by rfl) (by rfl) (by rfl) (store_newW (by rw [hsz.out]; kernel_rfl) (by rw [hsz.out]; rfl) h1c.out) ?_
        simp only [Act.put]
        have hb0 : b < wr.heap.size := hP.out.lt
        have BD := Blk.new wr 32 DA _ rfl
        have hP1 := Lib.hid (hP.out.of_below (bAl (bRefl wr) (.cells DA 32)))
        have hK1 := Lib.hid (PKeep.of (bAl (bRefl wr) (.cells DA 32)) (Nat.le_of_lt hb0) rfl)
        have hnl : cur.length + (⟨#[32]⟩ : ByteArray).size ≤ 140737488355328 := by
          have : (⟨#[32]⟩ : ByteArray).size = 1 := rfl
          omega
        have q := pr_str b cur ⟨#[32]⟩ (wr.alloc (.cells DA 32)) hP1.out hnl
        clear hnl ta tb tc td d0
        generalize wr.alloc (.cells DA 32) = w1 at *
        generalize hgd : wr.heap.size = gd at *
        go_upto_region 21 with (go_at_call 41; (with_reducible refine q.mono ?_); rintro e w2 ⟨⟨v2, rfl⟩, h2, k2⟩)
        have BD2 := k2.blk BD (by omega) (by decide)
        have hP2 : Hid (PAt w2 b (cur ++ [32])) := Lib.hid h2
        have hK2 := Lib.hid (hK1.out.trans k2)
        clear h2 k2 hP1 hK1 q BD
        apply wp_region_lit
        refine wpList_loadG (by rfl) (by rfl) (by rfl) (load_blk BD2 Tryz.underlying32 rfl (by rw [hsz.out]; kernel_rfl)) ?_
        simp only [Act.put]
        go_wp2_with fail
        obtain ⟨wo, rfl⟩ : ∃ w, w = wr := ⟨_, rfl⟩
        clear BD2
        go_loopw [64] (fun i wv => ∃ j : Nat, j ≤ 32 ∧ i = .int .i64 j ∧ Hid (PAt wv b (cur ++ [32] ++ hexT (d.take j))) ∧ Hid (PKeep b wo wv)) (fun i _ => 32 - (intOf i).toNat)
        case atStart => exact ⟨0, Nat.zero_le _, rfl, Lib.hid (by rw [List.take_zero]; unfold hexT; simpa using hP2.out), hK2⟩
        case round =>
          clear hP2 hK2
          obtain ⟨j, hjn, rfl, hP3, hK3⟩ := hrel
          by_cases hjt : j < 32
          · obtain ⟨c, hc⟩ : ∃ c, Hid (d[j]? = some c) := ⟨_, Lib.hid (List.getElem?_eq_getElem (by omega))⟩
            have hc256 := hd2 c (List.mem_of_getElem? hc.out)
            have x0 := hid.out j c hc.out wr
            have i4 : (0 : Int) ≤ (c : Int) / 16 := by omega
            have i5 : (c : Int) / 16 < 16 := by omega
            have hbit := Lib.hid (and_hex hc256)
            have i6 : (0 : Int) ≤ bits BinOp.and IntKind.u8 (c : Int) 15 := by rw [hbit.out]; omega
            have i7 : bits BinOp.and IntKind.u8 (c : Int) 15 < 16 := by rw [hbit.out]; omega
            have i2 : (0 : Int) ≤ (j : Int) := by omega
            have i3 : (j : Int) < 32 := by omega
            go_upto_region 24 with fail
            have KS : Hid (∀ w', Below wr.heap.size wr w' → True) := Lib.hid (fun _ _ => trivial)
            refine wp_region_schN (g := 1) KS [(0, 1), (1, 1), (2, 1), (3, 1), (4, 1), (5, 1)] ?_
            simp only [pickS, List.getElem?_cons_zero, List.getElem?_cons_succ]
            refine wpSchedN_t ?_
            refine wpSchedN_t ?_
            refine wpSchedN_t ?_
            refine wpSchedN_t ?_
            refine wpSchedN_t ?_
            refine wpSchedN_t ?_
            refine anyN_one (i := 6) ⟨_, rfl, fun K hK => ?_⟩
            go_simp
            have hn5 : (cur ++ [32] ++ hexT (d.take j)).length + 1 ≤ 140737488355328 := by
              rw [List.length_append, List.length_append, hexT_len, List.length_take, List.length_cons, List.length_nil]
              omega
            have hn6 : ∀ u : UInt8, (cur ++ [32] ++ hexT (d.take j) ++ [u]).length + 1 ≤ 140737488355328 := fun u => by
              rw [List.length_append, List.length_append, List.length_append, hexT_len, List.length_take, List.length_cons, List.length_nil, List.length_cons, List.length_nil]
              omega
            go_at_call 80
            (with_reducible refine (pr_byte b _ _ _ (hP3.out.of_below (bDr (bRefl _))) hn5).mono ?_)
            rintro e w5 ⟨⟨v5, rfl⟩, h5, k5⟩
            have hP5 := Lib.hid h5
            have hk5 := Lib.hid ((PKeep.of (bDr (bRefl wr)) (Nat.le_of_lt hP3.out.lt) rfl).trans k5)
            clear h5 k5
            refine hK.out _ _ trivial (fun _ => ?_)
            clear hK K
            refine anyN_end ?_
            refine NoPanic.normal ?_
            clear hn5
            go_upto_region 25 with fail
            have KS7 : Hid (∀ w', Below w5.heap.size w5 w' → True) := Lib.hid (fun _ _ => trivial)
            refine wp_region_schN (g := 1) KS7 [(0, 1), (1, 1), (2, 1), (3, 1), (4, 1), (5, 1)] ?_
            simp only [pickS, List.getElem?_cons_zero, List.getElem?_cons_succ]
            refine wpSchedN_t ?_
            refine wpSchedN_t ?_
            refine wpSchedN_t ?_
            refine wpSchedN_t ?_
            refine wpSchedN_t ?_
            refine wpSchedN_t ?_
            refine anyN_one (i := 6) ⟨_, rfl, fun K hK => ?_⟩
            go_simp
            go_at_call 80
            (with_reducible refine (pr_byte b _ _ _ (hP5.out.of_below (bDr (bRefl _))) (hn6 _)).mono ?_)
            rintro e w6 ⟨⟨v6, rfl⟩, h6, k6⟩
            have hP6 := Lib.hid h6
            have hk6 := Lib.hid ((PKeep.of (bDr (bRefl w5)) (Nat.le_of_lt hP5.out.lt) rfl).trans k6)
            clear h6 k6
            refine hK.out _ _ trivial (fun _ => ?_)
            clear hK K
            refine anyN_end ?_
            refine NoPanic.normal ?_
            go_wp2_with fail
            exact ⟨⟨j + 1, by omega, by go_num, Lib.hid (by
              have h9 := hP6.out
              rw [hex_digit (c / 16) (by omega) _ (by omega), hex_digit (c % 16) (by omega) _ hbit.out] at h9
              rw [hexT_take hc.out, ← List.append_assoc]
              simpa using h9), Lib.hid ((hK3.out.trans hk5.out).trans hk6.out)⟩, by simp [intOf]; omega⟩
          · have hj : Hid (d.take j = d) := Lib.hid (List.take_of_length_le (by omega))
            go_wp2_with fail
            exact ⟨⟨k + 1, by omega, by go_num, Lib.hid (hmore.out _ (by have := hP3.out; rw [hj.out, List.append_assoc] at this; exact this)), Lib.hid (hK.out.trans hK3.out), Lib.hid (hgood.out rfl)⟩, by simp [intOf]; omega⟩
    · have hk : Hid (items.take k = items) := Lib.hid (List.take_of_length_le (by omega))
      have hgd2 : Hid (items.all Itm.good = true) := Lib.hid (by have := hgd.out; rw [hk.out] at this; exact this)
      have hP2 : Hid (PAt wr b (l ++ word.data.toList ++ itmsT items)) := Lib.hid (by have := hP.out; rw [hk.out] at this; exact this)
      have hnl : (l ++ word.data.toList ++ itmsT items).length + (⟨#[10]⟩ : ByteArray).size ≤ 140737488355328 := by
        have h1 := itmsT_len (w := w) (b := b) hgd2.out hi
        have : (⟨#[10]⟩ : ByteArray).size = 1 := rfl
        rw [List.length_append, List.length_append]
        omega
      go_wp2_with (go_at_call 41; (with_reducible refine (pr_str b _ ⟨#[10]⟩ wr hP2.out hnl).mono ?_); rintro e w1 ⟨⟨v1, rfl⟩, h1, k1⟩)
      go_end0
      exact PPost.yes hgd2.out h1 (hK.out.trans k1)
theorem Itm.At.below {x : Itm} {w w' : World} {b : Nat} (h : x.At w b) (hb : Below b w w') : x.At w' b := by
  cases x with
  | num n => exact trivial
  | flag y => exact trivial
  | nums A c l => exact ⟨h.1.below hb, h.2⟩
  | seed d => exact h
theorem put_row (b : Nat) (l : By) (r : Rw) (items : List Itm) (word : ByteArray) (w : World) (hw : word.data.toList = wordN r.1) (ht : itmsT items = numsT r.2) (hg : items.all Itm.good = okR r) (hwt : itmsW items = 15 * r.2.length) (h : PAt w b l) (hi : ∀ x ∈ items, x.At w b) (hl : l.length + rmR r ≤ 1000000000) (hn : items.length ≤ 100) (hG : LibG b w) :
    Calls Tryz.prog 43 #[.pointer (some ⟨b, 0, none⟩), .string word, .slice (some ⟨w.heap.size, 0, none⟩) items.length items.length] (w.alloc (.cells (items.map Itm.val).toArray 20)) (fun e w' => (okR r = true → e = .returned (.tuple #[]) ∧ PAt w' b (l ++ rowT r)) ∧ (okR r = false → e = PanW) ∧ PKeep b w w') := by
  have hlt := h.lt
  have hb := bAl (bRefl w) (.cells (items.map Itm.val).toArray 20)
  have k1 := PKeep.of hb (Nat.le_of_lt hlt) rfl
  have hsz : word.size ≤ 6 := by
    have h2 : word.data.toList.length = word.size := by rw [Array.length_toList]; rfl
    have h3 := wordN_len r.1
    rw [← hw] at h3
    omega
  refine (pr_put b w.heap.size l word items _ (h.of_below hb) (Blk.new w _ _ _ rfl) (by omega) (fun x hx => (hi x hx).below k1.bl) (by unfold rmR at hl; rw [hwt]; omega) hn (hG.below k1.bl)).mono ?_
  rintro e w' ⟨h1, h2⟩
  rw [hg] at h1
  refine ⟨fun h3 => ?_, fun h3 => ?_, k1.trans h2⟩
  · rw [if_pos h3] at h1
    refine ⟨h1.1, ?_⟩
    have h4 := h1.2
    rw [hw, ht] at h4
    unfold rowT
    rw [← List.append_assoc, ← List.append_assoc]
    exact h4
  · rw [h3] at h1
    exact h1
theorem itms_nums (l : List Int) : itmsT (l.map Itm.num) = numsT l := by
  unfold itmsT numsT
  rw [List.flatMap_map]
  rfl
theorem itms_good (l : List Int) : (l.map Itm.num).all Itm.good = l.all okN := by
  rw [List.all_map]
  rfl
theorem itms_wt (l : List Int) : itmsW (l.map Itm.num) = 15 * l.length := by
  unfold itmsW
  induction l with
  | nil => rfl
  | cons x l ih =>
    rw [List.map_cons, List.map_cons, List.sum_cons, ih, List.length_cons]
    show 15 + _ = _
    omega
theorem put_nums (b : Nat) (l : By) (r : Rw) (word : ByteArray) (w : World) (hw : word.data.toList = wordN r.1) (h : PAt w b l) (hl : l.length + rmR r ≤ 1000000000) (hn : r.2.length ≤ 100) (hG : LibG b w) :
    Calls Tryz.prog 43 #[.pointer (some ⟨b, 0, none⟩), .string word, .slice (some ⟨w.heap.size, 0, none⟩) r.2.length r.2.length] (w.alloc (.cells (r.2.map (fun n => Value.iface 3 (.int .i64 n))).toArray 20)) (fun e w' => (okR r = true → e = .returned (.tuple #[]) ∧ PAt w' b (l ++ rowT r)) ∧ (okR r = false → e = PanW) ∧ PKeep b w w') := by
  have := put_row b l r (r.2.map Itm.num) word w hw (itms_nums _) (itms_good _) (itms_wt _) h (fun x hx => by obtain ⟨n, _, rfl⟩ := List.mem_map.1 hx; exact trivial) hl (by rw [List.length_map]; exact hn) hG
  rw [List.length_map, List.map_map] at this
  exact this
structure WI (b X0 : Nat) (X : Array Value) (x : Wld) (W w : World) (done : List Rw) : Prop where
  p : PAt w b (headT x ++ done.flatMap rowT)
  k : PKeep b W w
  bx : Blk w X0 35 X
  bk : Blk w (X0 + 1) 4 #[.bool true]
  ok : done.all okR = true
section
variable {b X0 : Nat} {X : Array Value} {x : Wld} {W w w' : World} {done : List Rw} {r : Rw}
theorem WI.al (h : WI b X0 X x W w done) (o : Obj) : WI b X0 X x W (w.alloc o) done :=
  ⟨h.p.of_below (bAl (bRefl w) o), h.k.trans (PKeep.of (bAl (bRefl w) o) (Nat.le_of_lt h.p.lt) rfl), h.bx.alloc o, h.bk.alloc o, h.ok⟩
theorem WI.put (h : WI b X0 X x W w done) (hp : PAt w' b ((headT x ++ done.flatMap rowT) ++ rowT r)) (k : PKeep b w w') (hr : okR r = true) (hX : b < X0) : WI b X0 X x W w' (done ++ [r]) := by
  refine ⟨?_, h.k.trans k, k.blk h.bx (by omega) (by decide), k.blk h.bk (by omega) (by decide), ?_⟩
  · rw [List.flatMap_append, ← List.append_assoc]
    simpa using hp
  · rw [List.all_append, h.ok]
    simp [hr]
theorem WI.room (h : WI b X0 X x W w done) {rest : List Rw} (hr : x.rows = done ++ r :: rest) (hm : x.room ≤ 1000000000) (hs : x.seed.length = 32) (hh : okHead x = true) : (headT x ++ done.flatMap rowT).length + rmR r ≤ 1000000000 := by
  have h1 := headT_len hh hs
  have h2 := rows_len_le h.ok
  unfold Wld.room at hm
  rw [hr, rmS_app] at hm
  have h3 : rmS (r :: rest) = rmR r + rmS rest := by unfold rmS; rw [List.map_cons, List.sum_cons]
  rw [List.length_append]
  omega
theorem bad_row {rest : List Rw} (hr : x.rows = done ++ r :: rest) (h : okR r = false) : x.okW = false := by
  unfold Wld.okW
  rw [hr, List.all_append, List.all_cons, h]
  simp
end
theorem split_map {α : Type} {f : α → Rw} {l : List α} {k : Nat} {y : α} {R D T : List Rw} (h : R = D ++ (l.map f ++ T)) (hy : l[k]? = some y) : R = (D ++ (l.take k).map f) ++ f y :: ((l.drop (k + 1)).map f ++ T) := by
  obtain ⟨hk, rfl⟩ := List.getElem?_eq_some_iff.1 hy
  have e : l = l.take k ++ l[k] :: l.drop (k + 1) := by rw [← List.drop_eq_getElem_cons hk, List.take_append_drop]
  have e2 : l.map f = (l.take k).map f ++ f l[k] :: (l.drop (k + 1)).map f := (congrArg (List.map f) e).trans (by rw [List.map_append, List.map_cons])
  rw [h, e2]
  simp only [List.append_assoc, List.cons_append]
theorem take_map {α : Type} {f : α → Rw} {l : List α} {k : Nat} {y : α} (D : List Rw) (hy : l[k]? = some y) : D ++ (l.take (k + 1)).map f = (D ++ (l.take k).map f) ++ [f y] := by
  rw [take_more hy, List.map_append, List.append_assoc]
  rfl
theorem split_lin {l : List Lin} {k : Nat} {y : Lin} {R D T : List Rw} (h : R = D ++ (l.flatMap linR ++ T)) (hy : l[k]? = some y) : R = (D ++ (l.take k).flatMap linR) ++ lineR y :: (y.rules.map ruleR ++ (y.off.map gapR ++ ((l.drop (k + 1)).flatMap linR ++ T))) := by
  obtain ⟨hk, rfl⟩ := List.getElem?_eq_some_iff.1 hy
  have e : l = l.take k ++ l[k] :: l.drop (k + 1) := by rw [← List.drop_eq_getElem_cons hk, List.take_append_drop]
  have e2 : l.flatMap linR = (l.take k).flatMap linR ++ (linR l[k] ++ (l.drop (k + 1)).flatMap linR) := (congrArg (List.flatMap linR) e).trans (by rw [List.flatMap_append, List.flatMap_cons])
  have e3 : linR l[k] = lineR l[k] :: (l[k].rules.map ruleR ++ l[k].off.map gapR) := rfl
  rw [h, e2, e3]
  simp only [List.append_assoc, List.cons_append]
theorem take_lin {l : List Lin} {k : Nat} {y : Lin} (D : List Rw) (hy : l[k]? = some y) : D ++ (l.take (k + 1)).flatMap linR = ((D ++ (l.take k).flatMap linR) ++ [lineR y] ++ y.rules.map ruleR) ++ y.off.map gapR := by
  rw [take_more hy, List.flatMap_append]
  show D ++ (_ ++ [y].flatMap linR) = _
  rw [show [y].flatMap linR = linR y by simp]
  unfold linR
  simp
end Go.Proofs.YtmbopkcmbiommaaGreatDoor
