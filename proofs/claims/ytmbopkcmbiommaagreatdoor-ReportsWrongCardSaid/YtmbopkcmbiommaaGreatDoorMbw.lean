/-
  strings.Join and SplitAfter, by the kit's contracts.
-/
import Derived.Test.YtmbopkcmbiommaaGreatDoorMbd
import Derived.Test.YtmbopkcmbiommaaGreatDoorMbc
import Derived.Shelf.Strings.OnBuilder
import Derived.Test.YtmbopkcmbiommaaGreatDoorMbt
import Derived.Test.YtmbopkcmbiommaaGreatDoorMaj
import Derived.Test.YtmbopkcmbiommaaGreatDoorMbv
namespace Go.Proofs.YtmbopkcmbiommaaGreatDoor
open Go Go.RowKit

def jnR : Go.Shelf.Ren where
  f := fun k => if k = 156 then 18 else if k = 165 then 40 else if k = 166 then 41 else if k = 169 then 20 else if k = 240 then 77 else if k = 241 then 78 else if k = 276 then 124 else 125
  t := fun k => if k = 0 then 0 else if k = 3 then 3 else if k = 4 then 4 else if k = 5 then 5 else if k = 9 then 9 else if k = 20 then 20 else if k = 31 then 48 else if k = 37 then 73 else if k = 70 then 72 else if k = 72 then 75 else if k = 75 then 111 else if k = 76 then 112 else if k = 80 then 78 else if k = 127 then 118 else 183
  g := fun k => k
set_option maxRecDepth 1000000 in
theorem jnL156 : Lays.n156 Tryz.prog jnR where
  mixed := by kernel_rfl
  f156 := by kernel_rfl
  f165 := by kernel_rfl
  f166 := by kernel_rfl
  f169 := by kernel_rfl
  f240 := by kernel_rfl
  f241 := by kernel_rfl
  f276 := by kernel_rfl
  f277 := by kernel_rfl
  t0 := by kernel_rfl
  a0 := by intro w; kernel_rfl
  z0 := by intro w; kernel_rfl
  v0 := by intro w; kernel_rfl
  t3 := by kernel_rfl
  a3 := by intro w; kernel_rfl
  z3 := by intro w; kernel_rfl
  v3 := by intro w; kernel_rfl
  t4 := by kernel_rfl
  a4 := by intro w; kernel_rfl
  z4 := by intro w; kernel_rfl
  v4 := by intro w; kernel_rfl
  t9 := by kernel_rfl
  a9 := by intro w; kernel_rfl
  z9 := by intro w; kernel_rfl
  v9 := by intro w; kernel_rfl
  t20 := by kernel_rfl
  a20 := by intro w; kernel_rfl
  z20 := by intro w; kernel_rfl
  v20 := by intro w; kernel_rfl
  t31 := by kernel_rfl
  a31 := by intro w; kernel_rfl
  z31 := by intro w; kernel_rfl
  v31 := by intro w; kernel_rfl
  t37 := by kernel_rfl
  a37 := by intro w; kernel_rfl
  z37 := by intro w; kernel_rfl
  v37 := by intro w; kernel_rfl
  t70 := by kernel_rfl
  a70 := by intro w; kernel_rfl
  z70 := by intro w; kernel_rfl
  v70 := by intro w; kernel_rfl
  t72 := by kernel_rfl
  a72 := by intro w; kernel_rfl
  z72 := by intro w; kernel_rfl
  v72 := by intro w; kernel_rfl
  t75 := by kernel_rfl
  a75 := by intro w; kernel_rfl
  z75 := by intro w; kernel_rfl
  v75 := by intro w; kernel_rfl
  t76 := by kernel_rfl
  a76 := by intro w; kernel_rfl
  z76 := by intro w; kernel_rfl
  v76 := by intro w; kernel_rfl
  t127 := by kernel_rfl
  a127 := by intro w; kernel_rfl
  z127 := by intro w; kernel_rfl
  v127 := by intro w; kernel_rfl
  t164 := by kernel_rfl
  a164 := by intro w; kernel_rfl
  z164 := by intro w; kernel_rfl
  v164 := by intro w; kernel_rfl
set_option maxRecDepth 1000000 in
theorem jnX : Builder.Extra Tryz.prog jnR where
  sizeBuilder := by kernel_rfl
  liesBuilder := by kernel_rfl
  t5 := by kernel_rfl
  a5 := by intro w; kernel_rfl
  z5 := by intro w; kernel_rfl
  v5 := by intro w; kernel_rfl
  infoByte := by kernel_rfl
  cellsByte := by kernel_rfl
  sizeByte := by kernel_rfl
  neB5 := of_decide_eq_true (by kernel_rfl)
theorem join_nil : ∀ l : List By, Lib.join l [] = l.flatten
  | [] => rfl
  | [x] => by simp [Lib.join]
  | x :: y :: r => by
    have := join_nil (y :: r)
    simp [Lib.join] at this ⊢
    rw [this]
/-- strings.Join without anything between. -/
theorem join_all (bk o c : Nat) (xs : List ByteArray) (w : World) (hcells : ∀ (j : Nat) x, xs[j]? = some x → w.cell? ⟨bk, o + j, none⟩ = some (.string x)) (hbk : bk < w.heap.size) (hN : xs.length ≤ 1000000) (hcap : xs.length ≤ c) (hlen : (bys xs).flatten.length ≤ 1000000) :
    Calls Tryz.prog 18 #[.slice (some ⟨bk, o, none⟩) xs.length c, .string ⟨#[]⟩] w (Ret (.string ⟨(bys xs).flatten.toArray⟩) w) := by
  have hj : Lib.join (xs.map (·.data.toList)) (⟨#[]⟩ : ByteArray).data.toList = (bys xs).flatten := join_nil _
  have := Any.strings_Join jnL156 jnX bk o c xs ⟨#[]⟩ w hcells hbk (by omega) hcap (by rw [hj]; omega)
  rw [hj] at this
  exact this
set_option maxRecDepth 100000 in
/-- strings.SplitAfter at line feeds. -/
theorem split_after (B : Nat) (s : ByteArray) (w : World) (hs : s.size ≤ 1000000) (hG : LibG B w) : Calls Tryz.prog 16 #[.string s, .string ⟨#[10]⟩] w (fun r w' => ∃ l : List ByteArray, r = .returned (.slice (some ⟨w.heap.size, 0, none⟩) l.length l.length) ∧ w' = w.alloc (.cells (strs l).toArray 9) ∧ bys l = afterC s.data.toList) := by
  obtain ⟨m, hm⟩ := hG.mx
  have hle := Lib.countB_le (⟨#[10]⟩ : ByteArray) (by decide) s.size s (Nat.le_refl _)
  have hlen := Lib.splitB_all (⟨#[10]⟩ : ByteArray) (by decide) 1 _ s rfl
  have c := Any.strings_genSplit { strL146 with } string_info9 s ⟨#[10]⟩ 1 (-1) (Lib.countB s ⟨#[10]⟩ + 1) m w (by omega) hm (by decide) (by decide) (by decide) (by decide) (by rw [if_pos (by decide)]; omega)
  rw [Nat.add_sub_cancel, hlen] at c
  have e2 : Lib.cellsOf (Lib.splitB ⟨#[10]⟩ 1 (Lib.countB s ⟨#[10]⟩) s) (Lib.countB s ⟨#[10]⟩ + 1) = ((Lib.splitB ⟨#[10]⟩ 1 (Lib.countB s ⟨#[10]⟩) s).map Value.string).toArray := by rw [← hlen]; exact Lib.cellsOf_full _
  rw [e2] at c
  have c : Calls Tryz.prog 39 #[.string s, .string ⟨#[10]⟩, .int .i64 1, .int .i64 (-1)] w (fun e w' => e = .returned (.slice (some ⟨w.heap.size, 0, none⟩) (Lib.countB s ⟨#[10]⟩ + 1) (Lib.countB s ⟨#[10]⟩ + 1)) ∧ w' = w.alloc (.cells ((Lib.splitB ⟨#[10]⟩ 1 (Lib.countB s ⟨#[10]⟩) s).map Value.string).toArray 9)) := c
  have hby : bys (Lib.splitB ⟨#[10]⟩ 1 (Lib.countB s ⟨#[10]⟩) s) = afterC s.data.toList := by
    unfold bys
    rw [Lib.splitB_data]
    exact splitK_after _ s.data.toList (Nat.le_refl _)
  go_enter Tryz.func16, Tryz.ntmps16
  go_wp2_with (go_at_call 39; (with_reducible refine c.mono ?_); rintro e w' ⟨rfl, hw⟩; rw [hw])
  go_ret
  exact ⟨_, by rw [hlen]; rfl, rfl, hby⟩
end Go.Proofs.YtmbopkcmbiommaaGreatDoor

/-
  frankinglaw59.ReportsLines, walked.
-/
namespace Go.Proofs.YtmbopkcmbiommaaGreatDoor
open Go Go.RowKit

theorem few_lenL {x : Wld} {t : By} (h : fewW x = true) (hs : x.seed.length = 32) (hp : printV x = (t, 0)) : (⟨t.toArray⟩ : ByteArray).size ≤ 1000000 := by
  obtain ⟨ht, _, ho⟩ := print_text hp
  have h1 := text_len ho hs
  have h2 := few_room h
  show t.toArray.size ≤ _
  rw [List.size_toArray, ht]
  omega
def sumL (l : List Lin) : Nat := (l.map (fun x => x.rules.length + x.off.length)).sum
theorem sumL_take {l : List Lin} {k : Nat} {y : Lin} (h : l[k]? = some y) : sumL (l.take (k + 1)) = sumL (l.take k) + (y.rules.length + y.off.length) := by
  rw [take_more h]
  unfold sumL
  simp
theorem sumL_le : ∀ {l : List Lin}, l.all fewL = true → sumL l ≤ 90 * l.length
  | [], _ => Nat.zero_le _
  | x :: l, h => by
    rw [List.all_cons, Bool.and_eq_true] at h
    have h2 := sumL_le h.2
    have h1 := h.1
    unfold fewL at h1
    simp only [Bool.and_eq_true, decide_eq_true_eq] at h1
    unfold sumL at h2 ⊢
    rw [List.map_cons, List.sum_cons, List.length_cons]
    omega
theorem sumL_pre {l : List Lin} {k : Nat} (h : l.all fewL = true) : sumL (l.take k) ≤ 90 * l.length := by
  have h1 : (l.take k).all fewL = true := List.all_eq_true.2 (fun y hy => List.all_eq_true.1 h y (List.mem_of_mem_take hy))
  have h2 := sumL_le h1
  have h3 : (l.take k).length ≤ l.length := by rw [List.length_take]; omega
  omega
/-- What SplitAfter makes of a report. -/
theorem after_text {x : Wld} {t : By} (hs : ∀ d ∈ x.seed, d < 256) (h : printV x = (t, 0)) : afterC t = linesC t ++ [[]] ∧ (linesC t).length = 1 + x.rows.length := by
  obtain ⟨e, -, -⟩ := print_text h
  have h1 := lines_end hs
  rw [← e] at h1
  refine ⟨?_, ?_⟩
  · have := after_flatten h1
    rw [linesC_flat] at this
    exact this
  · rw [e, lines_text hs, List.length_cons, List.length_map]
    omega
theorem flat_take_len (l : List By) (n : Nat) : (l.take n).flatten.length ≤ l.flatten.length := by
  conv => rhs; rw [← List.take_append_drop n l, List.flatten_append, List.length_append]
  omega
theorem bys_take (l : List ByteArray) (n : Nat) : bys (l.take n) = (bys l).take n := by unfold bys; rw [List.map_take]
theorem few_parts {x : Wld} (h : fewW x = true) : x.base.length ≤ 20 ∧ x.tiers.length ≤ 40 ∧ x.lines.length ≤ 8 ∧ x.orders.length ≤ 8 ∧ x.ents.length ≤ 40 ∧ x.secs.length ≤ 30 ∧ x.faults.length ≤ 20 ∧ x.lines.all fewL = true := by
  unfold fewW at h
  simp only [Bool.and_eq_true, decide_eq_true_eq] at h
  obtain ⟨h1, h2, h3, h4, h5, h6, h7, h8, h9, h10⟩ := h
  exact ⟨h1, h3, h4, h5, h6, h7, h8, h9⟩
theorem wrap_two {a b : Nat} (h : a + b ≤ 1000000) : IntKind.i64.wrap ((a : Int) + (b : Int)) = ((a + b : Nat) : Int) := by
  rw [IntKind.wrap_i64]
  omega
theorem seed_len {src : By} {x : Wld} {n : Nat} {e : Int} (h : readV src = (x, n, e)) : x.seed.length = 32 := by
  by_cases he : e = 0
  · subst he
    exact (print_read h).2.2.2.2
  · obtain ⟨rfl, -⟩ := read_no h he
    rfl
set_option maxRecDepth 100000 in
set_option maxHeartbeats 16000000 in
theorem lw_lines (s : WS) (x : Wld) (at_ : Nat) (W : World) (hx : WldAt W W.heap.size s x) (io : x.io) (hat : at_ < 65536) (hG : LibG W.heap.size W) :
    Calls Tryz.prog 7 #[.agg (s.cl x).toArray, .int .u16 (at_ : Nat)] W (Ret (.bool true) W) := by
  have hb := bAl (bRefl W) (.cells (s.cl x).toArray 35)
  have BX := Blk.new W 35 (s.cl x).toArray _ rfl
  have LL : Hid (∀ w' g, Blk w' g 35 (s.cl x).toArray → (Instr.loadAt 35 (.pointer (some ⟨g, 0, none⟩))).run Tryz.prog w' = .ok (.agg (s.cl x).toArray) w') := Lib.hid (fun _ _ B => whole_ld io.seed B)
  have hG1 : Hid (∀ w, Below W.heap.size W w → LibG w.heap.size w) := Lib.hid (fun w b => (hG.below b).more b.size)
  have qs : Hid (∀ w, Below W.heap.size W w → Calls Tryz.prog 8 #[] w (Ret (.bool true) w)) := Lib.hid (fun w b => law_sane w (hG1.out w b))
  have qf : Hid (∀ w, Below W.heap.size W w → Calls Tryz.prog 9 #[.agg (s.cl x).toArray] w (Ret (.bool (fewW x)) w)) := Lib.hid (fun w b => ref_few s x w ((hx.below b).more b.size) io.seed)
  have qp : Hid (∀ w, Below W.heap.size W w → fewW x = true → ∀ t e, printV x = (t, e) → Calls Tryz.prog 10 #[.agg (s.cl x).toArray] w (Ret (.tuple #[.string ⟨t.toArray⟩, .int .i64 e]) w)) := Lib.hid (fun w b hf t e hp => by
    have := rep_print s x w ((hx.below b).more b.size) (few_small hf io) io.byte (Nat.le_trans (few_room hf) (Nat.le_of_ble_eq_true rfl)) (hG1.out w b)
    rw [hp] at this
    exact this)
  have A1 : (s.cl x).toArray[1]? = some _ := ws_at (k := 1) rfl
  have A2 : (s.cl x).toArray[2]? = some _ := ws_at (k := 2) rfl
  have A4 : (s.cl x).toArray[4]? = some _ := ws_at (k := 4) rfl
  have A5 : (s.cl x).toArray[5]? = some _ := ws_at (k := 5) rfl
  have A7 : (s.cl x).toArray[7]? = some _ := ws_at (k := 7) rfl
  have A9 : (s.cl x).toArray[9]? = some _ := ws_at (k := 9) rfl
  have A10 : (s.cl x).toArray[42]? = some _ := ws_last io.seed
  obtain ⟨la, la1, la2, la3⟩ := hx.rl
  obtain ⟨Y, hY⟩ : ∃ Y, Hid ((s.cl x).toArray = Y) := ⟨_, Lib.hid rfl⟩
  rw [hY.out] at hb BX LL qf qp A1 A2 A4 A5 A7 A9 A10 ⊢
  clear hx hG
  obtain ⟨al, ab, ag, at9, ao, ae, as_, af, cl_, cb, cg, ct, co, ce, cs, cf⟩ := s
  simp only at A1 A2 A4 A5 A7 A9 A10 la2
  go_enter Tryz.func7, Tryz.ntmps7
  go_upto_region 1 with fail
  generalize W.alloc (.cells Y 35) = w1 at *
  go_upto_region 3 with (go_at_call 8; (with_reducible refine (qs.out _ hb).mono ?_); rintro e w2 ⟨rfl, b2⟩)
  have hb2 := bCall hb b2
  have BX2 := BX.below b2 BX.lt
  clear BX b2 qs
  have hG2 := Lib.hid hb
  clear hb
  apply wp_region_lit
  refine wpList_loadG (by rfl) (by rfl) (by rfl) (LL.out _ _ BX2) ?_
  simp only [Act.put]
  cases hf : fewW x with
  | false =>
    rw [hf] at qf
    replace hf := Lib.hid hf
    go_wp2_with (go_at_call 9; (with_reducible refine (qf.out _ hb2).mono ?_); rintro e w3 ⟨rfl, b3⟩)
    go_ret
    exact ⟨rfl, bCall hb2 b3⟩
  | true =>
    rw [hf] at qf
    replace qp := Lib.hid (fun w b => qp.out w b hf)
    have hfl := Lib.hid (fun t hp => few_lenL (t := t) hf io.seed hp)
    obtain ⟨f1, f2, f3, f4, f5, f6, f7, f8⟩ := few_parts hf
    replace hf := Lib.hid hf
    go_upto_region 5 with (go_at_call 9; (with_reducible refine (qf.out _ hb2).mono ?_); rintro e w3 ⟨rfl, b3⟩)
    clear qf
    have hb3 := bCall hb2 b3
    have BX3 := BX2.below b3 BX2.lt
    clear BX2 hb2 b3
    obtain ⟨⟨t, e⟩, hp⟩ : ∃ p, Hid (printV x = p) := ⟨_, Lib.hid rfl⟩
    have qp1 := qp.out w3 hb3 t e hp.out
    clear qp
    apply wp_region_lit
    refine wpList_loadG (by rfl) (by rfl) (by rfl) (LL.out _ _ BX3) ?_
    simp only [Act.put]
    by_cases he : e = 0
    rotate_left 1
    · have hne0 : (e != 0) = true := by simpa using he
      go_wp2_with (go_at_call 10; (with_reducible refine qp1.mono ?_); rintro e w4 ⟨rfl, b4⟩)
      go_ret
      exact ⟨rfl, bCall hb3 b4⟩
    subst he
    have hsz := hfl.out t hp.out
    obtain ⟨hat1, hat2⟩ := after_text io.byte hp.out
    have hrl := rows_len (post_len (print_text hp.out).2.1)
    obtain ⟨M0, hM0⟩ : ∃ M0 : Nat, M0 = 1 + x.base.length + x.tiers.length + x.lines.length + x.orders.length + x.ents.length + x.secs.length + x.faults.length := ⟨_, rfl⟩
    have hM : Hid ((linesC t).length = M0 + sumL x.lines) := Lib.hid (by rw [hat2, hrl]; unfold sumL; omega)
    replace hM0 := Lib.hid hM0
    replace hat1 := Lib.hid hat1
    clear hat2 hrl
    go_upto_region 8 with (go_at_call 10; (with_reducible refine qp1.mono ?_); rintro e w4 ⟨rfl, b4⟩)
    have hb4 := bCall hb3 b4
    have BX4 := BX3.below b4 BX3.lt
    clear BX3 hb3 b4 qp1
    have a1 := (BX4.cell 1).trans A1
    have a2 := (BX4.cell 2).trans A2
    have a4 := (BX4.cell 4).trans A4
    have a5 := (BX4.cell 5).trans A5
    have a7 := (BX4.cell 7).trans A7
    have a9 := (BX4.cell 9).trans A9
    have a10 := (BX4.cell 42).trans A10
    go_wp2_with fail
    clear a2 a4 a5 a7 a9 a10
    have eM : (1 + (x.base.length : Int) + (x.tiers.length : Int) + (x.lines.length : Int) + (x.orders.length : Int) + (x.ents.length : Int) + (x.secs.length : Int) + (x.faults.length : Int)) = ((M0 : Nat) : Int) := by have := hM0.out; omega
    rw [eM]
    clear eM
    have hM2 : M0 ≤ 500 := by have := hM0.out; omega
    go_loopw [7, 8] (fun v i wr => ∃ k : Nat, k ≤ x.lines.length ∧ i = .int .i64 k ∧ (∃ m : Nat, v = .int .i64 m ∧ Hid (m = M0 + sumL (x.lines.take k)) ∧ m ≤ 2000) ∧ Below W.heap.size W wr ∧ Blk wr W.heap.size 35 Y) (fun _ i _ => x.lines.length - (intOf i).toNat)
    case atStart => exact ⟨0, Nat.zero_le _, rfl, ⟨_, rfl, Lib.hid (by simp [sumL]), by omega⟩, hb4, BX4⟩
    case round =>
      clear hb4 BX4 a1
      obtain ⟨k, hkn, rfl, ⟨m, rfl, hm, hm2⟩, hb, BX⟩ := hrel
      have a1 := (BX.cell 1).trans A1
      by_cases hlt : k < x.lines.length
      · obtain ⟨y, hy⟩ : ∃ y, Hid (x.lines[k]? = some y) := ⟨_, Lib.hid (List.getElem?_eq_getElem hlt)⟩
        have hfy := List.all_eq_true.1 f8 y (List.mem_of_getElem? hy.out)
        unfold fewL at hfy
        simp only [Bool.and_eq_true, decide_eq_true_eq] at hfy
        obtain ⟨-, -, hr20, hr70⟩ := hfy
        obtain ⟨⟨p0, p1, p2, p3, m0, m1, m2, m3⟩, eq0, rq0⟩ := la3 k y hy.out
        have zo : (la.zip x.lines)[k]? = some ((⟨p0, p1, p2, p3, m0, m1, m2, m3⟩ : LS), y) := by rw [List.getElem?_zip_eq_some]; exact ⟨eq0, hy.out⟩
        obtain ⟨b1, o1, rfl, l1, hc⟩ := Cl_at (f := fun p : LS × Lin => p.1.cl p.2) (fun _ _ => rfl) (la2.below hb) hlt zo
        have c4 := hc 4 (by omega)
        have c5 := hc 5 (by omega)
        simp only [LS.cl, List.getElem?_cons_zero, List.getElem?_cons_succ] at c4 c5
        have i0 : (0 : Int) ≤ (k : Int) := by omega
        have i1 : (k : Int) < (x.lines.length : Int) := by omega
        have hsum : sumL (x.lines.take (k + 1)) = sumL (x.lines.take k) + (y.rules.length + y.off.length) := sumL_take hy.out
        have hpre := sumL_pre (k := k + 1) f8
        have hm3 : m + (y.rules.length + y.off.length) ≤ 2000 := by have := hm.out; omega
        have hbz := hb.size
        have KS : Hid (∀ w', Below wr.heap.size wr w' → w'.cell? ⟨W.heap.size, 1, none⟩ = some (.slice (some ⟨b1, o1, none⟩) x.lines.length cl_) ∧ w'.cell? ⟨b1, o1 + k * 6 + 4, none⟩ = some (.slice p2 y.rules.length m2) ∧ w'.cell? ⟨b1, o1 + k * 6 + 5, none⟩ = some (.slice p3 y.off.length m3)) := Lib.hid (fun w' h => ⟨((BX.below h BX.lt).cell 1).trans A1, (h.cell (p := ⟨b1, o1 + k * 6 + 4, none⟩) (by show b1 < _; omega)).trans c4, (h.cell (p := ⟨b1, o1 + k * 6 + 5, none⟩) (by show b1 < _; omega)).trans c5⟩)
        clear hc eq0 rq0 zo c4 c5 hpre
        replace hsum := Lib.hid hsum
        go_upto_region 12 with fail
        refine wp_region_schB (f := 19) KS [(0, 1), (1, 1), (2, 1), (3, 2), (4, 1), (5, 1), (6, 1), (7, 2), (8, 1), (9, 1), (10, 1), (11, 2), (12, 1), (13, 1), (14, 1), (15, 2), (16, 1), (17, 1), (18, 1), (19, 3)] ?_
        simp only [pickS, List.getElem?_cons_zero, List.getElem?_cons_succ]
        refine wpSched_t ?_
        refine wpSched_t ?_
        refine wpSched_t ?_
        refine wpSched_r ?_
        refine wpSched_t ?_
        refine wpSched_t ?_
        refine wpSched_t ?_
        refine wpSched_r ?_
        refine wpSched_t ?_
        refine wpSched_t ?_
        refine wpSched_t ?_
        refine wpSched_r ?_
        refine wpSched_t ?_
        refine wpSched_t ?_
        refine wpSched_t ?_
        refine wpSched_r ?_
        refine wpSched_t ?_
        refine wpSched_t ?_
        refine wpSched_t ?_
        refine wpSched_last ?_
        first | simp only [List.map_nil] | simp only [List.map_cons, List.map_nil]
        clear KS
        go_wp2_with fail
        refine NoPanic.normal ?_
        go_wp2_with fail
        exact ⟨⟨k + 1, by omega, by go_num, ⟨m + (y.rules.length + y.off.length), by rw [wrap_two (by omega), wrap_two (by omega)], Lib.hid (by rw [hsum.out, hm.out, Nat.add_assoc]), hm3⟩, bDr hb, BX⟩, by simp [intOf]; omega⟩
      · have hmm : Hid (m = (linesC t).length) := Lib.hid (by have := hm.out; rw [List.take_of_length_le (by omega)] at this; rw [hM.out, this])
        clear hm hM hM0
        go_wp2_with fail
        (with_reducible refine (split_after wr.heap.size ⟨t.toArray⟩ wr hsz (hG1.out wr hb)).mono ?_)
        rintro e5 w5 ⟨l, rfl, rfl, hl⟩
        have hl2 : bys l = linesC t ++ [[]] := hl.trans (by show afterC (t.toArray).toList = _; rw [List.toList_toArray]; exact hat1.out)
        have hln : l.length = m + 1 := by
          have h1 := congrArg List.length hl2
          have h2 : (bys l).length = l.length := by unfold bys; rw [List.length_map]
          rw [List.length_append, List.length_cons, List.length_nil] at h1
          have := hmm.out
          omega
        have hlast : l[m]? = some ⟨#[]⟩ := by
          have h1 : (bys l)[m]? = some [] := by rw [hl2, List.getElem?_append_right (by have := hmm.out; omega), hmm.out]; simp
          unfold bys at h1
          rw [List.getElem?_map] at h1
          obtain ⟨z, hz, hz2⟩ := Option.map_eq_some_iff.1 h1
          rw [hz]
          refine congrArg some (ByteArray.ext ?_)
          rw [← Array.toArray_toList (xs := z.data), hz2]
        have BL := Blk.new wr 9 (strs l).toArray _ rfl
        have hb6 := bAl hb (.cells (strs l).toArray 9)
        have hcell : Hid (∀ w, Blk w wr.heap.size 9 (strs l).toArray → ∀ (j : Nat) z, l[j]? = some z → w.cell? ⟨wr.heap.size, j, none⟩ = some (.string z)) := Lib.hid (fun w B j z h => by rw [B.cell, List.getElem?_toArray]; unfold strs; rw [List.getElem?_map, h]; rfl)
        have cM := hcell.out _ BL m _ hlast
        have hll : Hid (∀ n, n ≤ m → bys (l.take n) = (linesC t).take n) := Lib.hid (fun n hn => by rw [bys_take, hl2, List.take_append_of_le_length (by rw [← hmm.out]; exact hn)])
        rw [hln]
        clear hl hl2 hlast hat1
        generalize hg9 : wr.heap.size = g9 at *
        generalize wr.alloc (.cells (strs l).toArray 9) = w6 at *
        dsimp only
        have i0 : (0 : Int) ≤ (m : Int) := by omega
        have i1 : (m : Int) < ((m + 1 : Nat) : Int) := by omega
        go_upto_region 17 with fail
        obtain ⟨n, hn⟩ : ∃ n : Nat, n = at_ % (m + 1) := ⟨_, rfl⟩
        have hnm : n < m + 1 := by rw [hn]; exact Nat.mod_lt _ (by omega)
        have e10 : ((at_ : Int) % ((m : Int) + 1)) = (n : Int) := by rw [hn, Int.natCast_emod]; rfl
        rw [e10]
        clear e10 hn cM
        have i2 : (0 : Int) ≤ (n : Int) := by omega
        have i3 : (n : Int) ≤ ((m + 1 : Nat) : Int) := by omega
        have hfn := flat_take_len (linesC t) n
        rw [linesC_flat] at hfn
        have hts : t.length ≤ 1000000 := by have h9 : t.toArray.size ≤ 1000000 := hsz; rwa [List.size_toArray] at h9
        have qj : Calls Tryz.prog 18 #[.slice (some ⟨g9, 0, none⟩) n (m + 1), .string ⟨#[]⟩] w6 (Ret (.string ⟨((linesC t).take n).flatten.toArray⟩) w6) := by
          have hlt2 : (l.take n).length = n := by rw [List.length_take, hln]; omega
          have := join_all g9 0 (m + 1) (l.take n) w6 (fun j z h => by
            rw [Nat.zero_add]
            rw [List.getElem?_take] at h
            split at h
            · exact hcell.out _ BL j z h
            · cases h) BL.lt (by omega) (by omega) (by rw [hll.out n (by omega)]; omega)
          rw [hlt2, hll.out n (by omega)] at this
          exact this
        have hrt := read_take (n := n) io.byte io.seed hp.out
        have hzs : (⟨((linesC t).take n).flatten.toArray⟩ : ByteArray).size ≤ 1000000 := by show (((linesC t).take n).flatten.toArray).size ≤ _; rw [List.size_toArray]; omega
        generalize ((linesC t).take n).flatten = jt at *
        clear hll hcell hfn hts
        go_wp2_with fail
        (with_reducible refine qj.mono ?_)
        rintro e6 w7 ⟨rfl, b7⟩
        dsimp only
        have hb7 := bCall hb6 b7
        clear qj BL
        go_wp2_with fail
        by_cases h0 : n = 0
        · have hv := hrt.1 h0
          (with_reducible refine (read_is _ (zeroW, 1, 590) w7 (by simpa using hv) hzs (hG1.out w7 hb7)).mono ?_)
          rintro e9 w8 ⟨s3, rfl, hW8, b8, -⟩
          dsimp only at hW8 ⊢
          have hb8 := bAl (bCall hb7 b8) (.cells (s3.cl zeroW).toArray 35)
          have hst := store_newW (P := Tryz.prog) (w := w8) (t := 35) (ty := 35) (old := (nilWS.cl zeroW).toArray) (X := (s3.cl zeroW).toArray) (by rw [wsCl_size rfl]; exact world_info) (by rw [wsCl_size rfl]; rfl) wsCl_one
          generalize (s3.cl zeroW).toArray = Y8 at *
          clear hW8
          iterate 16 go_step
          refine wpList_storeG (by rfl) (by rfl) (by rfl) (by rfl) hst ?_
          simp only [Act.put]
          clear hst
          generalize w8.alloc (.cells Y8 35) = w9 at *
          subst h0
          go_wp2_with fail
          go_ret
          exact ⟨rfl, hb8⟩
        · obtain ⟨x3, e3, hv, he3⟩ := hrt.2 h0
          (with_reducible refine (read_is _ (x3, 0, e3) w7 (by simpa using hv) hzs (hG1.out w7 hb7)).mono ?_)
          rintro e9 w8 ⟨s3, rfl, hW8, b8, -⟩
          dsimp only at hW8 ⊢
          have hb8 := bAl (bCall hb7 b8) (.cells (s3.cl x3).toArray 35)
          have hst := store_newW (P := Tryz.prog) (w := w8) (t := 35) (ty := 35) (old := (nilWS.cl zeroW).toArray) (X := (s3.cl x3).toArray) (by rw [wsCl_size (seed_len hv)]; exact world_info) (by rw [wsCl_size (seed_len hv)]; rfl) wsCl_one
          generalize (s3.cl x3).toArray = Y8 at *
          clear hW8
          iterate 16 go_step
          refine wpList_storeG (by rfl) (by rfl) (by rfl) (by rfl) hst ?_
          simp only [Act.put]
          clear hst
          generalize w8.alloc (.cells Y8 35) = w9 at *
          have h01 : ((n : Int) == 0) = false := by simpa using h0
          have h02 : (e3 != 590) = true := by simpa using he3
          go_wp2_with fail
          go_ret
          exact ⟨rfl, hb8⟩
end Go.Proofs.YtmbopkcmbiommaaGreatDoor

/-
  frankinglaw59.ReportsWrong, walked.
-/
namespace Go.Proofs.YtmbopkcmbiommaaGreatDoor
open Go Go.RowKit

def oddsL (lk : ByteArray) : List ByteArray := [⟨#[10]⟩, ⟨#[32, 10]⟩, ⟨#[120, 10]⟩, ⟨#[119, 111, 114, 108, 100, 32, 48, 32, 48, 32, 48, 10]⟩, (⟨#[119, 111, 114, 108, 100, 32, 48, 32, 48, 32, 48, 32]⟩ ++ (⟨#[48, 48, 48, 48, 48, 48, 48, 48, 48, 48, 48, 48, 48, 48, 48, 48, 48, 48, 48, 48, 48, 48, 48, 48, 48, 48, 48, 48, 48, 48, 48, 48, 48, 48, 48, 48, 48, 48, 48, 48, 48, 48, 48, 48, 48, 48, 48, 48, 48, 48, 48, 48, 48, 48, 48, 48, 48, 48, 48, 48, 48, 48, 48, 48]⟩ : ByteArray).extract 1 64 ++ ⟨#[10]⟩), (⟨#[119, 111, 114, 108, 100, 32, 48, 32, 48, 32, 48, 32, 65]⟩ ++ (⟨#[48, 48, 48, 48, 48, 48, 48, 48, 48, 48, 48, 48, 48, 48, 48, 48, 48, 48, 48, 48, 48, 48, 48, 48, 48, 48, 48, 48, 48, 48, 48, 48, 48, 48, 48, 48, 48, 48, 48, 48, 48, 48, 48, 48, 48, 48, 48, 48, 48, 48, 48, 48, 48, 48, 48, 48, 48, 48, 48, 48, 48, 48, 48, 48]⟩ : ByteArray).extract 1 64 ++ ⟨#[10]⟩), (⟨#[32]⟩ ++ lk), ⟨#[99, 108, 97, 115, 115, 32, 49, 10]⟩, ⟨#[116, 105, 101, 114, 32, 49, 32, 50, 32, 51, 10]⟩, ⟨#[108, 105, 110, 101, 32, 49, 32, 50, 32, 48, 10]⟩, ⟨#[108, 105, 110, 101, 32, 49, 32, 50, 32, 50, 32, 48, 32, 49, 10]⟩, ⟨#[114, 117, 108, 101, 32, 49, 32, 50, 10]⟩, ⟨#[103, 97, 112, 32, 49, 32, 50, 32, 51, 10]⟩, ⟨#[111, 114, 100, 101, 114, 32, 49, 32, 50, 32, 51, 32, 52, 32, 53, 32, 54, 32, 55, 32, 56, 32, 50, 32, 48, 10]⟩, ⟨#[111, 114, 100, 101, 114, 32, 49, 32, 50, 32, 51, 32, 52, 32, 53, 32, 54, 32, 55, 32, 56, 32, 49, 10]⟩, ⟨#[101, 110, 116, 114, 121, 32, 49, 32, 50, 32, 51, 32, 52, 32, 53, 32, 54, 32, 55, 10]⟩, ⟨#[115, 101, 99, 114, 101, 116, 32, 48, 52, 10]⟩, ⟨#[115, 101, 99, 114, 101, 116, 32, 49, 48, 57, 57, 53, 49, 49, 54, 50, 55, 55, 55, 55, 10]⟩, ⟨#[115, 101, 99, 114, 101, 116, 10]⟩, ⟨#[102, 97, 117, 108, 116, 32, 49, 32, 50, 32, 51, 10]⟩, ⟨#[102, 97, 117, 108, 116, 32, 49, 32, 50, 32, 51, 32, 52, 32, 10]⟩]
theorem odd_is {a b : By} (h : badL a) (e : a = b) : badL b := e ▸ h
set_option maxRecDepth 100000 in
theorem odd_at (lk : ByteArray) (h : ∃ u, lk.data.toList = u ++ [10] ∧ ∀ x ∈ u, x ≠ 10) : ∀ j, j < 21 → ∃ oj, (oddsL lk)[j]? = some oj ∧ badL oj.data.toList ∧ oj.data.toList.length ≤ lk.data.toList.length + 100 := by
  intro j hj
  have hc : j = 0 ∨ j = 1 ∨ j = 2 ∨ j = 3 ∨ j = 4 ∨ j = 5 ∨ j = 6 ∨ j = 7 ∨ j = 8 ∨ j = 9 ∨ j = 10 ∨ j = 11 ∨ j = 12 ∨ j = 13 ∨ j = 14 ∨ j = 15 ∨ j = 16 ∨ j = 17 ∨ j = 18 ∨ j = 19 ∨ j = 20 := by omega
  rcases hc with rfl | rfl | rfl | rfl | rfl | rfl | rfl | rfl | rfl | rfl | rfl | rfl | rfl | rfl | rfl | rfl | rfl | rfl | rfl | rfl | rfl
  · refine ⟨_, rfl, ?_, ?_⟩
    · exact odd_is odd0_bad (by kernel_rfl)
    · exact Nat.le_trans (Nat.le_of_ble_eq_true (by kernel_rfl)) (Nat.le_add_left 100 _)
  · refine ⟨_, rfl, ?_, ?_⟩
    · exact odd_is odd1_bad (by kernel_rfl)
    · exact Nat.le_trans (Nat.le_of_ble_eq_true (by kernel_rfl)) (Nat.le_add_left 100 _)
  · refine ⟨_, rfl, ?_, ?_⟩
    · exact odd_is odd2_bad (by kernel_rfl)
    · exact Nat.le_trans (Nat.le_of_ble_eq_true (by kernel_rfl)) (Nat.le_add_left 100 _)
  · refine ⟨_, rfl, ?_, ?_⟩
    · exact odd_is odd3_bad (by kernel_rfl)
    · exact Nat.le_trans (Nat.le_of_ble_eq_true (by kernel_rfl)) (Nat.le_add_left 100 _)
  · refine ⟨_, rfl, ?_, ?_⟩
    · exact odd_is odd4_bad (by kernel_rfl)
    · exact Nat.le_trans (Nat.le_of_ble_eq_true (by kernel_rfl)) (Nat.le_add_left 100 _)
  · refine ⟨_, rfl, ?_, ?_⟩
    · exact odd_is odd5_bad (by kernel_rfl)
    · exact Nat.le_trans (Nat.le_of_ble_eq_true (by kernel_rfl)) (Nat.le_add_left 100 _)
  · refine ⟨_, rfl, ?_, ?_⟩
    · have e : ((⟨#[32]⟩ : ByteArray) ++ lk).data.toList = 32 :: lk.data.toList := by rw [ByteArray.data_append]; simp
      rw [e]
      exact odd6_bad h
    · rw [ByteArray.data_append]
      simp
  · refine ⟨_, rfl, ?_, ?_⟩
    · exact odd_is odd7_bad (by kernel_rfl)
    · exact Nat.le_trans (Nat.le_of_ble_eq_true (by kernel_rfl)) (Nat.le_add_left 100 _)
  · refine ⟨_, rfl, ?_, ?_⟩
    · exact odd_is odd8_bad (by kernel_rfl)
    · exact Nat.le_trans (Nat.le_of_ble_eq_true (by kernel_rfl)) (Nat.le_add_left 100 _)
  · refine ⟨_, rfl, ?_, ?_⟩
    · exact odd_is odd9_bad (by kernel_rfl)
    · exact Nat.le_trans (Nat.le_of_ble_eq_true (by kernel_rfl)) (Nat.le_add_left 100 _)
  · refine ⟨_, rfl, ?_, ?_⟩
    · exact odd_is odd10_bad (by kernel_rfl)
    · exact Nat.le_trans (Nat.le_of_ble_eq_true (by kernel_rfl)) (Nat.le_add_left 100 _)
  · refine ⟨_, rfl, ?_, ?_⟩
    · exact odd_is odd11_bad (by kernel_rfl)
    · exact Nat.le_trans (Nat.le_of_ble_eq_true (by kernel_rfl)) (Nat.le_add_left 100 _)
  · refine ⟨_, rfl, ?_, ?_⟩
    · exact odd_is odd12_bad (by kernel_rfl)
    · exact Nat.le_trans (Nat.le_of_ble_eq_true (by kernel_rfl)) (Nat.le_add_left 100 _)
  · refine ⟨_, rfl, ?_, ?_⟩
    · exact odd_is odd13_bad (by kernel_rfl)
    · exact Nat.le_trans (Nat.le_of_ble_eq_true (by kernel_rfl)) (Nat.le_add_left 100 _)
  · refine ⟨_, rfl, ?_, ?_⟩
    · exact odd_is odd14_bad (by kernel_rfl)
    · exact Nat.le_trans (Nat.le_of_ble_eq_true (by kernel_rfl)) (Nat.le_add_left 100 _)
  · refine ⟨_, rfl, ?_, ?_⟩
    · exact odd_is odd15_bad (by kernel_rfl)
    · exact Nat.le_trans (Nat.le_of_ble_eq_true (by kernel_rfl)) (Nat.le_add_left 100 _)
  · refine ⟨_, rfl, ?_, ?_⟩
    · exact odd_is odd16_bad (by kernel_rfl)
    · exact Nat.le_trans (Nat.le_of_ble_eq_true (by kernel_rfl)) (Nat.le_add_left 100 _)
  · refine ⟨_, rfl, ?_, ?_⟩
    · exact odd_is odd17_bad (by kernel_rfl)
    · exact Nat.le_trans (Nat.le_of_ble_eq_true (by kernel_rfl)) (Nat.le_add_left 100 _)
  · refine ⟨_, rfl, ?_, ?_⟩
    · exact odd_is odd18_bad (by kernel_rfl)
    · exact Nat.le_trans (Nat.le_of_ble_eq_true (by kernel_rfl)) (Nat.le_add_left 100 _)
  · refine ⟨_, rfl, ?_, ?_⟩
    · exact odd_is odd19_bad (by kernel_rfl)
    · exact Nat.le_trans (Nat.le_of_ble_eq_true (by kernel_rfl)) (Nat.le_add_left 100 _)
  · refine ⟨_, rfl, ?_, ?_⟩
    · exact odd_is odd20_bad (by kernel_rfl)
    · exact Nat.le_trans (Nat.le_of_ble_eq_true (by kernel_rfl)) (Nat.le_add_left 100 _)
theorem flat_set : ∀ (l : List By) (k : Nat) (y z : By), l[k]? = some z → (l.set k y).flatten.length + z.length = l.flatten.length + y.length
  | [], k, y, z, h => by simp at h
  | x :: l, 0, y, z, h => by
    simp only [List.getElem?_cons_zero, Option.some.injEq] at h
    subst h
    rw [List.set_cons_zero, List.flatten_cons, List.flatten_cons, List.length_append, List.length_append]
    omega
  | x :: l, k + 1, y, z, h => by
    rw [List.getElem?_cons_succ] at h
    have := flat_set l k y z h
    rw [List.set_cons_succ, List.flatten_cons, List.flatten_cons, List.length_append, List.length_append]
    omega
theorem strs_set (l : List ByteArray) (k : Nat) (y : ByteArray) : (strs l).toArray.setIfInBounds k (.string y) = (strs (l.set k y)).toArray := by
  unfold strs
  rw [List.setIfInBounds_toArray, List.map_set]
set_option maxRecDepth 100000 in
set_option maxHeartbeats 16000000 in
theorem lw_wrong (s : WS) (x : Wld) (at_ turn : Nat) (W : World) (hx : WldAt W W.heap.size s x) (io : x.io) (hat : at_ < 65536) (hturn : turn < 256) (hG : LibG W.heap.size W) :
    Calls Tryz.prog 6 #[.agg (s.cl x).toArray, .int .u16 (at_ : Nat), .int .u8 (turn : Nat)] W (Ret (.bool true) W) := by
  have hb := bAl (bRefl W) (.cells (s.cl x).toArray 35)
  have BX := Blk.new W 35 (s.cl x).toArray _ rfl
  have LL : Hid (∀ w' g, Blk w' g 35 (s.cl x).toArray → (Instr.loadAt 35 (.pointer (some ⟨g, 0, none⟩))).run Tryz.prog w' = .ok (.agg (s.cl x).toArray) w') := Lib.hid (fun _ _ B => whole_ld io.seed B)
  have hG1 : Hid (∀ w, Below W.heap.size W w → LibG w.heap.size w) := Lib.hid (fun w b => (hG.below b).more b.size)
  have qs : Hid (∀ w, Below W.heap.size W w → Calls Tryz.prog 8 #[] w (Ret (.bool true) w)) := Lib.hid (fun w b => law_sane w (hG1.out w b))
  have qf : Hid (∀ w, Below W.heap.size W w → Calls Tryz.prog 9 #[.agg (s.cl x).toArray] w (Ret (.bool (fewW x)) w)) := Lib.hid (fun w b => ref_few s x w ((hx.below b).more b.size) io.seed)
  have qp : Hid (∀ w, Below W.heap.size W w → fewW x = true → ∀ t e, printV x = (t, e) → Calls Tryz.prog 10 #[.agg (s.cl x).toArray] w (Ret (.tuple #[.string ⟨t.toArray⟩, .int .i64 e]) w)) := Lib.hid (fun w b hf t e hp => by
    have := rep_print s x w ((hx.below b).more b.size) (few_small hf io) io.byte (Nat.le_trans (few_room hf) (Nat.le_of_ble_eq_true rfl)) (hG1.out w b)
    rw [hp] at this
    exact this)
  obtain ⟨Y, hY⟩ : ∃ Y, Hid ((s.cl x).toArray = Y) := ⟨_, Lib.hid rfl⟩
  rw [hY.out] at hb BX LL qf qp ⊢
  have hGW := Lib.hid hG
  clear hx hG
  go_enter Tryz.func6, Tryz.ntmps6
  go_upto_region 1 with fail
  generalize W.alloc (.cells Y 35) = w1 at *
  go_upto_region 3 with (go_at_call 8; (with_reducible refine (qs.out _ hb).mono ?_); rintro e w2 ⟨rfl, b2⟩)
  have hb2 := bCall hb b2
  have BX2 := BX.below b2 BX.lt
  clear BX b2 qs
  have hG2 := Lib.hid hb
  clear hb
  apply wp_region_lit
  refine wpList_loadG (by rfl) (by rfl) (by rfl) (LL.out _ _ BX2) ?_
  simp only [Act.put]
  cases hf : fewW x with
  | false =>
    rw [hf] at qf
    replace hf := Lib.hid hf
    go_wp2_with (go_at_call 9; (with_reducible refine (qf.out _ hb2).mono ?_); rintro e w3 ⟨rfl, b3⟩)
    go_ret
    exact ⟨rfl, bCall hb2 b3⟩
  | true =>
    rw [hf] at qf
    replace qp := Lib.hid (fun w b => qp.out w b hf)
    have hfl := Lib.hid (fun t hp => few_lenL (t := t) hf io.seed hp)
    replace hf := Lib.hid hf
    go_upto_region 5 with (go_at_call 9; (with_reducible refine (qf.out _ hb2).mono ?_); rintro e w3 ⟨rfl, b3⟩)
    clear qf
    have hb3 := bCall hb2 b3
    have BX3 := BX2.below b3 BX2.lt
    clear BX2 hb2 b3
    obtain ⟨⟨t, e⟩, hp⟩ : ∃ p, Hid (printV x = p) := ⟨_, Lib.hid rfl⟩
    have qp1 := qp.out w3 hb3 t e hp.out
    clear qp
    apply wp_region_lit
    refine wpList_loadG (by rfl) (by rfl) (by rfl) (LL.out _ _ BX3) ?_
    simp only [Act.put]
    by_cases he : e = 0
    rotate_left 1
    · have hne0 : (e != 0) = true := by simpa using he
      go_wp2_with (go_at_call 10; (with_reducible refine qp1.mono ?_); rintro e w4 ⟨rfl, b4⟩)
      go_ret
      exact ⟨rfl, bCall hb3 b4⟩
    subst he
    have hsz := hfl.out t hp.out
    obtain ⟨hat1, hat2⟩ := after_text io.byte hp.out
    have hM1 : 1 ≤ (linesC t).length := by omega
    have hends := lines_end io.byte
    rw [← (print_text hp.out).1] at hends
    have hts : (linesC t).flatten.length = t.length := by rw [linesC_flat]
    have htl : t.length ≤ 600000 := by
      have h1 := text_len (print_text hp.out).2.2 io.seed
      have h2 := few_room hf.out
      rw [← (print_text hp.out).1] at h1
      omega
    replace hat1 := Lib.hid hat1
    clear hat2
    go_upto_region 8 with (go_at_call 10; (with_reducible refine qp1.mono ?_); rintro e w4 ⟨rfl, b4⟩)
    have hb4 := bCall hb3 b4
    clear BX3 hb3 b4 qp1
    go_wp2_with fail
    (with_reducible refine (split_after w4.heap.size ⟨t.toArray⟩ w4 hsz (hG1.out w4 hb4)).mono ?_)
    rintro e5 w5 ⟨l, rfl, rfl, hl⟩
    obtain ⟨m, hm⟩ : ∃ m, m + 1 = (linesC t).length := ⟨(linesC t).length - 1, by omega⟩
    have hl2 : bys l = linesC t ++ [[]] := hl.trans (by show afterC (t.toArray).toList = _; rw [List.toList_toArray]; exact hat1.out)
    have hln : l.length = m + 1 + 1 := by
      have h1 := congrArg List.length hl2
      have h2 : (bys l).length = l.length := by unfold bys; rw [List.length_map]
      rw [List.length_append, List.length_cons, List.length_nil] at h1
      omega
    have hlast : l[m + 1]? = some ⟨#[]⟩ := by
      have h1 : (bys l)[m + 1]? = some [] := by rw [hl2, List.getElem?_append_right (by omega), hm]; simp
      unfold bys at h1
      rw [List.getElem?_map] at h1
      obtain ⟨z, hz, hz2⟩ := Option.map_eq_some_iff.1 h1
      rw [hz]
      refine congrArg some (ByteArray.ext ?_)
      rw [← Array.toArray_toList (xs := z.data), hz2]
    have BL := Blk.new w4 9 (strs l).toArray _ rfl
    have hb6 := bAl hb4 (.cells (strs l).toArray 9)
    have hcell : Hid (∀ w g, ∀ l : List ByteArray, Blk w g 9 (strs l).toArray → ∀ (j : Nat) z, l[j]? = some z → w.cell? ⟨g, j, none⟩ = some (.string z)) := Lib.hid (fun w g l B j z h => by rw [B.cell, List.getElem?_toArray]; unfold strs; rw [List.getElem?_map, h]; rfl)
    have cM := hcell.out _ _ l BL (m + 1) _ hlast
    have hmt : m ≤ 600000 := by
      have h1 := rows_le x.rows
      have h2 := (after_text io.byte hp.out).2
      have h3 : x.text.length = (headT x).length + (x.rows.flatMap rowT).length := by unfold Wld.text; rw [List.length_append]
      rw [← (print_text hp.out).1] at h3
      omega
    rw [hln]
    replace hm := Lib.hid hm
    clear hl hlast hat1
    generalize hg9 : w4.heap.size = g9 at *
    generalize w4.alloc (.cells (strs l).toArray 9) = w6 at *
    dsimp only
    have i0 : (0 : Int) ≤ (m : Int) := by omega
    go_upto_region 12 with fail
    obtain ⟨k, hk⟩ : ∃ k : Nat, k = at_ % (m + 1) := ⟨_, rfl⟩
    have hkm : k < m + 1 := by rw [hk]; exact Nat.mod_lt _ (by omega)
    have e10 : ((at_ : Int) % ((m : Int) + 1)) = (k : Int) := by rw [hk, Int.natCast_emod]; rfl
    rw [e10]
    clear e10 hk cM
    obtain ⟨lk, hlk⟩ : ∃ lk, l[k]? = some lk := ⟨_, List.getElem?_eq_getElem (by omega)⟩
    have hlk2 : (linesC t)[k]? = some lk.data.toList := by
      have h1 : (bys l)[k]? = some lk.data.toList := by unfold bys; rw [List.getElem?_map, hlk]; rfl
      rw [hl2, List.getElem?_append_left (by have := hm.out; omega)] at h1
      exact h1
    have hlk3 := hends _ (List.mem_of_getElem? hlk2)
    have ck := hcell.out _ _ l BL k _ hlk
    have i1 : (0 : Int) ≤ (k : Int) := by omega
    have i2 : (k : Int) < (m : Int) + 1 + 1 := by omega
    have KS : Hid (∀ w', Below w6.heap.size w6 w' → w'.cell? ⟨g9, k, none⟩ = some (.string lk)) := Lib.hid (fun w' h => (h.cell (p := ⟨g9, k, none⟩) BL.lt).trans ck)
    have hlks : lk.data.toList.length ≤ t.length := by
      have := flat_set (linesC t) k [] _ hlk2
      simp only [List.length_nil] at this
      omega
    have hls : ¬ 9223372036854775807 < 1 + lk.size := by
      have h2 : lk.data.toList.length = lk.size := by rw [Array.length_toList]; rfl
      omega
    replace hlk := Lib.hid hlk
    replace hlk2 := Lib.hid hlk2
    clear ck
    refine wp_region_schB (f := 12) KS [(0, 1), (1, 1), (2, 1), (3, 1), (4, 1), (5, 1), (6, 1), (7, 1), (8, 1), (9, 2), (10, 1), (11, 0), (12, 3)] ?_
    simp only [pickS, List.getElem?_cons_zero, List.getElem?_cons_succ]
    refine wpSched_t ?_
    refine wpSched_t ?_
    refine wpSched_t ?_
    refine wpSched_t ?_
    refine wpSched_t ?_
    refine wpSched_t ?_
    refine wpSched_t ?_
    refine wpSched_t ?_
    refine wpSched_t ?_
    refine wpSched_r ?_
    refine wpSched_t ?_
    refine wpSched_force (fun K hK => ?_)
    go_simp
    refine shut_go hK KS ?_
    clear hK K
    refine wpSched_last ?_
    first | simp only [List.map_nil] | simp only [List.map_cons, List.map_nil]
    clear KS
    go_wp2_with fail
    refine NoPanic.normal ?_
    have BO := Blk.new w6.drew 9 (strs (oddsL lk)).toArray w6.heap.size rfl
    change Exit.then _ _ _ _ (w6.drew.alloc (.cells (strs (oddsL lk)).toArray 9))
    have hb7 := bAl (bDr hb6) (.cells (strs (oddsL lk)).toArray 9)
    have BL7 : Blk (w6.drew.alloc (.cells (strs (oddsL lk)).toArray 9)) g9 9 (strs l).toArray := Blk.alloc (w := w6.drew) BL _
    have hgg : g9 < w6.heap.size := BL.lt
    generalize hgo : w6.heap.size = go9 at *
    generalize w6.drew.alloc (.cells (strs (oddsL lk)).toArray 9) = w7 at *
    obtain ⟨j, hj⟩ : ∃ j, Hid (j = turn % 21) := ⟨_, Lib.hid rfl⟩
    have hj21 : j < 21 := by rw [hj.out]; exact Nat.mod_lt _ (by omega)
    have e21 : ((turn : Int) % 21) = (j : Int) := by rw [hj.out, Int.natCast_emod]; rfl
    obtain ⟨oj, hoj, hbad, hojl⟩ := odd_at lk hlk3 j hj21
    have cj := hcell.out _ _ _ BO j _ hoj
    have ck := hcell.out _ _ _ BL7 k _ hlk.out
    have fk := BL7.frozen k
    have i3 : (0 : Int) ≤ (j : Int) := by omega
    have i4 : (j : Int) < 21 := by omega
    have BL8 := BL7.set_ k (.string oj)
    rw [strs_set] at BL8
    have hb8 := hb7.setCell (p := ⟨g9, k, none⟩) (by rw [← hg9]; exact hb4.size) (.string oj)
    go_upto_region 14 with fail
    generalize w7.setCell ⟨g9, k, none⟩ (.string oj) = w8 at *
    clear cj ck fk e21 BO BL7 BL
    have hfl2 : (bys (l.set k oj)).flatten = ((linesC t).set k oj.data.toList).flatten := by
      have h1 : bys (l.set k oj) = (bys l).set k oj.data.toList := by unfold bys; rw [List.map_set]
      rw [h1, hl2, List.set_append_left _ _ (by have := hm.out; omega), List.flatten_append]
      simp
    have hlen2 : ((linesC t).set k oj.data.toList).flatten.length ≤ 700000 := by
      have := flat_set (linesC t) k oj.data.toList _ hlk2.out
      omega
    have hrb := read_bad io.byte io.seed hp.out (k := k) (by have := hm.out; omega) hbad
    have qj : Calls Tryz.prog 18 #[.slice (some ⟨g9, 0, none⟩) (m + 1 + 1) (m + 1 + 1), .string ⟨#[]⟩] w8 (Ret (.string ⟨((linesC t).set k oj.data.toList).flatten.toArray⟩) w8) := by
      have hlt2 : (l.set k oj).length = m + 1 + 1 := by rw [List.length_set, hln]
      have := join_all g9 0 (m + 1 + 1) (l.set k oj) w8 (fun j z h => by
        rw [Nat.zero_add]
        exact hcell.out _ _ _ BL8 j z h) BL8.lt (by omega) (by omega) (by rw [hfl2]; omega)
      rw [hlt2, hfl2] at this
      exact this
    have hzs : (⟨((linesC t).set k oj.data.toList).flatten.toArray⟩ : ByteArray).size ≤ 1000000 := by
      show (((linesC t).set k oj.data.toList).flatten.toArray).size ≤ _
      rw [List.size_toArray]
      omega
    generalize ((linesC t).set k oj.data.toList).flatten = jt at *
    clear hfl2 hlen2 hcell hbad hoj
    go_wp2_with fail
    (with_reducible refine qj.mono ?_)
    rintro e6 w9 ⟨rfl, b9⟩
    dsimp only
    go_wp2_with fail
    (with_reducible refine (law_failsI ⟨jt.toArray⟩ ((k : Int) + 1) 590 (k + 1) W w9 (by omega) hzs hGW.out (bCall hb8 b9) (by simpa using hrb)).mono ?_)
    rintro e7 w10 ⟨rfl, b10⟩
    dsimp only
    go_wp2_with fail
    go_ret
    exact ⟨rfl, b10⟩
end Go.Proofs.YtmbopkcmbiommaaGreatDoor

/-
  Small whole numbers that came in.
-/
namespace Go.Proofs.YtmbopkcmbiommaaGreatDoor
open Go Go.ChangeShapes Go.WideShapes Go.ChangeAt Go.RowKit Go.Deep

theorem wf_u16R {z : Int} (h : (Lit.int .u16 z).wf = true) : 0 ≤ z ∧ z ≤ 65535 := by
  unfold Lit.wf at h
  simp only [Bool.and_eq_true, decide_eq_true_eq] at h
  exact h
section
variable {H : Type} {enc : TypeId × Value → H} {w : World} {base : Nat} {spare : Nat → Bool} {held : Bool} {n : Nat} {cs : List Value} {y : DataW H × List MemPlace}
theorem in_u16 (h : DataW.trod enc Tryz.prog w base spare held n 47 cs = some y) : ∃ b : Nat, cs = [.int .u16 (b : Nat)] ∧ b < 65536 := by
  obtain ⟨z, e, _, hz⟩ := DataW.trod_int Tryz.underlying47 h
  have hz' := wf_u16R hz
  exact ⟨z.toNat, by rw [e, show ((z.toNat : Nat) : Int) = z by omega], by omega⟩
theorem in_u8 (h : DataW.trod enc Tryz.prog w base spare held n 5 cs = some y) : ∃ b : Nat, cs = [.int .u8 (b : Nat)] ∧ b < 256 := by
  obtain ⟨z, e, _, hz⟩ := DataW.trod_int Tryz.underlying5 h
  have hz' := wf_u8 hz
  exact ⟨z.toNat, by rw [e, show ((z.toNat : Nat) : Int) = z by omega], by omega⟩
end
end Go.Proofs.YtmbopkcmbiommaaGreatDoor
