/-
  frankinglaw55.PathsOnly, walked.
-/
import Derived.Test.YthgppaiiapkdjaaDoorZLwL
import Derived.Test.YthgppaiiapkdjaaDoorMbh
import Derived.Test.YthgppaiiapkdjaaDoorMbr
import Derived.Test.YthgppaiiapkdjaaDoorMba
namespace Go.Proofs.YthgppaiiapkdjaaDoor
open Go.RowKit

/-- A case in which nothing is found wrong. -/
theorem check_right {c : Cs} (h : c.check = (0, 0, 0) ∨ ∃ a, c.check = (a, 0, 0)) : c.formed = true ∧ c.valid = true ∧ c.bares = true ∧ c.sealed = true ∧ (c.way c.keys.length 0 c.place.toNat).2 = 0 := by
  have he : c.check.2.2 = 0 := by rcases h with h | ⟨a, h⟩ <;> rw [h]
  have hw : c.check.2.1 = 0 := by rcases h with h | ⟨a, h⟩ <;> rw [h]
  obtain ⟨h1, h2, h3⟩ := check_ok he
  rw [check_of h1 h2 h3] at hw
  by_cases hs : c.sealed = true
  · rw [if_pos hs] at hw
    exact ⟨h1, h2, h3, hs, hw⟩
  · rw [if_neg hs] at hw
    exact absurd hw (by show ¬ (1 : Int) = 0; omega)
theorem bareAt_of {c : Cs} (h : c.bares = true) {i : Nat} (hi : i < c.keys.length) : c.bareAt i = true := List.all_eq_true.1 h i (List.mem_range.2 hi)
theorem keyAt_of {c : Cs} {i : Nat} {k : Int} (h : c.keys[i]? = some k) : c.keyAt i = k := by
  unfold Cs.keyAt; rw [List.getD_eq_getElem?_getD, h]; rfl
theorem step_cell {w : World} {B : Nat} {c : Cs} {A : Option Addr} (hR : Rd w B 74 A c.steps.length (c.steps.flatMap Stp.cl)) (hok : ∀ s ∈ c.steps, s.ok) {i : Nat} (hi : i < c.steps.length) :
    ∃ b off, A = some ⟨b, off, none⟩ ∧ b < B ∧ w.cell? ⟨b, off + i * 74 + 37, none⟩ = some (.int .i64 (c.stepAt i).right.at_) := by
  obtain ⟨b, off, hA, hb, hc⟩ := hR.2 (by omega)
  have hs : c.steps[i]? = some c.steps[i] := List.getElem?_eq_getElem hi
  have hst : c.stepAt i = c.steps[i] := by unfold Cs.stepAt; rw [List.getD_eq_getElem?_getD, hs]; rfl
  refine ⟨b, off, hA, hb, ?_⟩
  rw [Nat.add_assoc, hst]
  refine hc _ _ ?_
  have hsok := hok _ (List.getElem_mem hi)
  rw [flat_mem c.steps i 37 _ (fun z hz => Stp.cl_length (hok z hz)) hs (by omega), (Stp.cells hsok).2.2.1 0 (by omega)]
  rfl
theorem six_case {X : Array Value} {w : World} {lb : Nat} {t : TypeId} (h : Blk w lb t X) : Blk w lb t X := h

set_option maxRecDepth 100000 in
set_option maxHeartbeats 16000000 in
theorem lw_only (hS : SaneOk) (hP : CheckOk) (cs : Array Value) (jcs : List (Array Value)) (c : Cs) (As : Option Addr) (ca : Nat) (ss : List Int) (W : World) (hG : ShaG W) (h : CaseAt W W.heap.size cs jcs c) (hA : Rd W W.heap.size 1 As ss.length (ints ss)) :
    Calls Tryd.prog 6 #[.agg cs, .slice As ss.length ca] W (Ret (.bool true) W) := by
  have BC := Blk.new W 33 cs _ rfl
  have hb := bAl (bRefl W) (.cells cs 33)
  go_enter Tryd.func6, Tryd.ntmps6
  go_upto_region 1 with fail
  generalize W.alloc (.cells cs 33) = w1 at *
  have q := hS w1 (hG.below hb)
  go_wp2_with fail
  (with_reducible refine q.mono ?_)
  rintro e w2 ⟨rfl, b2⟩
  clear q
  have BC2 := BC.below b2 BC.lt
  have hb2 := bCall hb b2
  clear BC hb b2
  have C2 := (h.below hb2).more hb2.size
  have LC := load_case BC2 h.size
  obtain ⟨a, b, e, hce⟩ := chk_parts (c := c)
  have Hce := Lib.hid hce
  have q4 := hP.of C2 (hG.below hb2) hce
  clear hce C2
  go_upto_region 3 with fail
  apply wp_region_lit
  refine wpList_loadG (by rfl) (by rfl) (by rfl) LC ?_
  simp only [Act.put, List.setIfInBounds_toArray, List.set_cons_zero, List.set_cons_succ]
  clear LC
  go_wp2_with fail
  (with_reducible refine q4.mono ?_)
  rintro e' w3 ⟨rfl, b3⟩
  have BC3 := BC2.below b3 BC2.lt
  have hb3 := bCall hb2 b3
  clear BC2 hb2 b3 q4
  have C3 := (h.below hb3).more hb3.size
  have LC := load_case BC3 h.size
  have qf := ref_fewcase cs jcs c w3 C3
  clear C3
  go_upto_region 4 with fail
  apply wp_region_lit
  refine wpList_loadG (by rfl) (by rfl) (by rfl) LC ?_
  simp only [Act.put, List.setIfInBounds_toArray, List.set_cons_zero, List.set_cons_succ]
  clear LC
  cases hf : c.few
  · rw [hf] at qf
    clear hf
    go_wp2_with fail
    (with_reducible refine qf.mono ?_)
    rintro e w4 ⟨rfl, b4⟩
    go_wp2_with fail
    go_ret
    exact ⟨rfl, bCall hb3 b4⟩
  rw [hf] at qf
  have hfl := few_le hf
  clear hf
  by_cases he : e = 0
  case neg =>
    have t : (e == 0) = false := by rw [beq_eq_false_iff_ne]; exact he
    go_wp2_with fail
    (with_reducible refine qf.mono ?_)
    rintro e w4 ⟨rfl, b4⟩
    go_wp2_with fail
    go_ret
    exact ⟨rfl, bCall hb3 b4⟩
  subst he
  by_cases hw0 : b = 0
  case neg =>
    have t : (b == 0) = false := by rw [beq_eq_false_iff_ne]; exact hw0
    go_wp2_with fail
    (with_reducible refine qf.mono ?_)
    rintro e w4 ⟨rfl, b4⟩
    go_wp2_with fail
    go_ret
    exact ⟨rfl, bCall hb3 b4⟩
  subst hw0
  go_wp2_with fail
  (with_reducible refine qf.mono ?_)
  rintro e w4 ⟨rfl, b4⟩
  have BC4 := BC3.below b4 BC3.lt
  have hb4 := bCall hb3 b4
  clear BC3 hb3 b4 qf
  obtain ⟨hform, hval, hbar, hsea, hway⟩ := check_right (c := c) (.inr ⟨a, Hce.out⟩)
  have Hval := Lib.hid hval
  have Hbar := Lib.hid hbar
  have Hway := Lib.hid hway
  unfold Cs.formed formedB at hform
  simp only [Bool.and_eq_true, decide_eq_true_eq] at hform
  obtain ⟨n2, n9, hjn, hst, hfl0, hfl1, hgood, hp0, hp1⟩ := hform
  obtain ⟨hAt0, hwok⟩ := at_start hp0 hp1 hsea
  have HAt0 := Lib.hid hAt0
  have Hwok := Lib.hid hwok
  clear hval hbar hway hsea hAt0 hwok hgood Hce
  obtain ⟨AF, cf, k3, hRF⟩ := h.first
  obtain ⟨AK, ck, k4, hRK⟩ := h.keys
  obtain ⟨AJ, cj, k5, hRJ⟩ := h.jobs
  obtain ⟨AT, ct, k13, hRT⟩ := h.steps
  have k6 := h.place
  have y3 : w4.cell? ⟨W.heap.size, 3, none⟩ = some (.slice AF c.first.length cf) := (BC4.cell 3).trans k3
  have y4 : w4.cell? ⟨W.heap.size, 4, none⟩ = some (.slice AK c.keys.length ck) := (BC4.cell 4).trans k4
  have y5 : w4.cell? ⟨W.heap.size, 5, none⟩ = some (.slice AJ c.jobs.length cj) := (BC4.cell 5).trans k5
  have y6 : w4.cell? ⟨W.heap.size, 6, none⟩ = some (.int .i64 c.place) := (BC4.cell 6).trans k6
  have t6 : ((c.jobs.length : Int) == (c.keys.length : Int)) = true := by rw [beq_iff_eq]; omega
  have i0 : ¬ c.place < 0 := by omega
  have i1 : ¬ (c.first.length : Int) ≤ c.place := by omega
  by_cases hsl : ss.length = c.keys.length
  case neg =>
    have t7 : ((ss.length : Int) == (c.keys.length : Int)) = false := by rw [beq_eq_false_iff_ne]; omega
    go_wp2_with fail
    go_ret
    exact ⟨rfl, hb4⟩
  have t7 : ((ss.length : Int) == (c.keys.length : Int)) = true := by rw [beq_iff_eq]; omega
  go_wp2_with fail
  have hpl : c.place = ((c.place.toNat : Nat) : Int) := by omega
  clear y3 y4 y5 y6 t6 t7 i0 i1
  go_loopw [8, 9, 10] (fun bt at_ lg wr => ∃ (i k : Nat) (x : Ltr) (Ab : Option Addr) (cb : Nat), i ≤ c.keys.length ∧ lg = .int .i64 i ∧ at_ = .int .i64 k ∧ bt = .slice Ab (c.inAt i).length cb ∧ Below W.heap.size W wr ∧ Blk wr W.heap.size 33 cs ∧ Rd W W.heap.size 6 Ab (c.inAt i).length ((c.inAt i).flatMap Ltr.cl) ∧ Hid (c.At c.words.el c.place.toNat i k x)) (fun _ _ lg _ => c.keys.length - (intOf lg).toNat)
  case atStart => exact ⟨0, c.place.toNat, _, AF, cf, Nat.zero_le _, rfl, congrArg (Value.int .i64) hpl, rfl, hb4, BC4, hRF.1, HAt0⟩
  case round =>
    clear BC4 hb4 HAt0 hpl
    obtain ⟨i, k, x, Ab, cb, hin, rfl, rfl, rfl, hb, BC, hRb, HAt⟩ := hrel
    have y4 : wr.cell? ⟨W.heap.size, 4, none⟩ = some (.slice AK c.keys.length ck) := (BC.cell 4).trans k4
    have hk : k < (c.inAt i).length := (List.getElem?_eq_some_iff.1 HAt.out.here).1
    by_cases hlt : i < c.keys.length
    · obtain ⟨s, hs0⟩ : ∃ s, Hid (ss[i]? = some s) := ⟨_, Lib.hid (List.getElem?_eq_getElem (by omega))⟩
      obtain ⟨ky, hky⟩ : ∃ ky, Hid (c.keys[i]? = some ky) := ⟨_, Lib.hid (List.getElem?_eq_getElem hlt)⟩
      obtain ⟨bs, offs, hAs, hbs, c0⟩ := Int_at (hA.below hb) (by omega) hs0.out
      subst hAs
      have q1 := el_public s wr
      have j0 : (0 : Int) ≤ (i : Int) := by omega
      have j1 : (i : Int) < (c.keys.length : Int) := by omega
      have j2 : (i : Int) < (ss.length : Int) := by omega
      by_cases hsec : secB s = true
      case neg =>
        have e1 : pubE s = 110 := by unfold pubE; rw [if_neg hsec]
        rw [e1] at q1
        clear e1 hsec
        go_wp2_with fail
        (with_reducible refine q1.mono ?_)
        rintro e w5 ⟨rfl, b5⟩
        go_wp2_with fail
        go_ret
        exact ⟨rfl, bCall hb b5⟩
      have e1 : pubE s = 0 := by unfold pubE; rw [if_pos hsec]; unfold powE; rw [if_pos valid_four]
      rw [e1] at q1
      have Hsec := Lib.hid hsec
      clear e1 hsec
      obtain ⟨pk, hpk⟩ : ∃ pk, Hid (pk = pubV s) := ⟨_, Lib.hid rfl⟩
      rw [← hpk.out] at q1
      obtain ⟨bk, offk, hAK, hbk, c1⟩ := Int_at (hRK.below hb) hlt hky.out
      subst hAK
      go_wp2_with fail
      (with_reducible refine q1.mono ?_)
      rintro e w5 ⟨rfl, b5⟩
      have hwr := hb.size
      have BC5 := BC.below b5 BC.lt
      have hb5 := bCall hb b5
      have d0 := (b5.cell (p := ⟨bs, offs + i, none⟩) (by show bs < _; omega)).trans c0
      have d1 := (b5.cell (p := ⟨bk, offk + i, none⟩) (by show bk < _; omega)).trans c1
      have y4 : w5.cell? ⟨W.heap.size, 4, none⟩ = some (.slice (some ⟨bk, offk, none⟩) c.keys.length ck) := (BC5.cell 4).trans k4
      clear q1 c0 c1 b5
      by_cases hkk : pk = ky
      case neg =>
        have t : (pk == ky) = false := by rw [beq_eq_false_iff_ne]; exact hkk
        go_wp2_with fail
        go_ret
        exact ⟨rfl, hb5⟩
      subst hkk
      have hkey : Hid (pubV s = c.keyAt i) := Lib.hid (by rw [keyAt_of hky.out]; exact hpk.out.symm)
      have y5 : w5.cell? ⟨W.heap.size, 5, none⟩ = some (.slice AJ c.jobs.length cj) := (BC5.cell 5).trans k5
      have j3 : (i : Int) < (c.jobs.length : Int) := by omega
      obtain ⟨jc, hjc⟩ : ∃ jc, Hid (jcs[i]? = some jc) := ⟨_, Lib.hid (List.getElem?_eq_getElem (by rw [h.jlen]; omega))⟩
      obtain ⟨a1, a2, a3, a4⟩ := h.job i jc hjc.out
      have C5 := (h.below hb5).more hb5.size
      obtain ⟨bj, offj, hAJ, hbj, hrange⟩ := jobs_at C5 ((hRJ.below hb5).more hb5.size) hjc.out
      clear C5
      subst hAJ
      go_upto_region 18 with fail
      apply wp_region_lit
      iterate 12 go_step
      refine wpList_load_mid rfl 45 (.tmp 99) rfl bj (offj + i * 49) rfl jc.toList _ hrange Tryd.underlying45 rfl (by rw [Array.length_toList, a1]; exact job_info) ?_
      rw [Array.toArray_toList]
      clear hrange
      iterate 3 go_step
      refine wpList_storeG (by rfl) (by rfl) (by rfl) (by rfl) (store_newW (by rw [a1]; exact job_info) (by rw [a1]; rfl) a2) ?_
      simp only [Act.put]
      have BJ := Blk.new w5 45 jc _ rfl
      have BC6 := BC5.alloc (.cells jc 45)
      have hb6 := bAl hb5 (.cells jc 45)
      have d0' := ((bAl (bRefl w5) (.cells jc 45)).cell (p := ⟨bs, offs + i, none⟩) (by show bs < _; have := hb5.size; omega)).trans d0
      have hjb : W.heap.size < w5.heap.size := BC5.lt
      clear BC5 hb5 d0 d1 y4 y5
      generalize w5.alloc (.cells jc 45) = w6 at *
      generalize w5.heap.size = jb at *
      obtain ⟨f1, f2, f3, y, p, hy, hp, hcb⟩ := at_fits HAt.out (bareAt_of Hbar.out hlt) (fun he => way_right Hway.out hlt HAt.out.way he)
      have Hy := Lib.hid hy
      have Hp := Lib.hid hp
      have Hcb := Lib.hid hcb
      clear hy hp hcb
      obtain ⟨A0, n0, u0, hR0⟩ := a3.h0
      obtain ⟨A1, n1, u1, hR1⟩ := a3.h1
      have z0 : w6.cell? ⟨jb, 0, none⟩ = some (.slice A0 (c.jobAt i).bare.length n0) := (BJ.cell 0).trans u0
      have z1 : w6.cell? ⟨jb, 1, none⟩ = some (.slice A1 (c.jobAt i).proofs.length n1) := (BJ.cell 1).trans u1
      have v0 : ¬ (k : Int) < 0 := by omega
      have v1 : ¬ ((c.inAt i).length : Int) ≤ (k : Int) := by omega
      have v2 : ¬ ((c.jobAt i).bare.length : Int) ≤ (k : Int) := by omega
      have v3 : ¬ ((c.jobAt i).proofs.length : Int) ≤ (k : Int) := by omega
      have m0 : (0 : Int) ≤ (k : Int) := by omega
      have m1 : (k : Int) < ((c.inAt i).length : Int) := by omega
      have m2 : (k : Int) < ((c.jobAt i).bare.length : Int) := by omega
      have m3 : (k : Int) < ((c.jobAt i).proofs.length : Int) := by omega
      obtain ⟨bb, offb, hAb, hbb, o0, o1, o2, o3, o4, o5⟩ := Ltr_at hRb hk HAt.out.here
      subst hAb
      have hgx := Lib.hid HAt.out.good
      obtain ⟨e1, e2⟩ := strip_is Hsec.out hgx.out
      have qs : Hid (∀ w, Calls Tryd.prog 18 #[.int .i64 s, .agg #[.int .i64 x.a0, .int .i64 x.b0, .int .i64 x.a1, .int .i64 x.b1, .int .i64 x.a2, .int .i64 x.b2]] w (Ret (.tuple #[(stripL s x).agg, .int .i64 0]) w)) := fun w => by
        have := el_strip s x w
        rw [e1, e2] at this
        exact this
      clear e1 e2
      obtain ⟨sv, hsv⟩ : ∃ sv, Hid (sv = stripL s x) := ⟨_, Lib.hid rfl⟩
      rw [← hsv.out] at qs
      unfold Ltr.agg at qs
      go_upto_region 21 with fail
      have KS : Hid (∀ w', Below w6.heap.size w6 w' → _) := Lib.hid (fun w' b' => (fun a0 a1 a2 a3 a4 a5 a6 => ⟨a0, a1, a2, a3, a4, a5, a6⟩ : w'.cell? ⟨bs, offs + i, none⟩ = some (.int .i64 s) → w'.cell? ⟨bb, offb + k * 6, none⟩ = some (.int .i64 x.a0) → w'.cell? ⟨bb, offb + k * 6 + 1, none⟩ = some (.int .i64 x.b0) → w'.cell? ⟨bb, offb + k * 6 + 2, none⟩ = some (.int .i64 x.a1) → w'.cell? ⟨bb, offb + k * 6 + 3, none⟩ = some (.int .i64 x.b1) → w'.cell? ⟨bb, offb + k * 6 + 4, none⟩ = some (.int .i64 x.a2) → w'.cell? ⟨bb, offb + k * 6 + 5, none⟩ = some (.int .i64 x.b2) → _ ∧ _ ∧ _ ∧ _ ∧ _ ∧ _ ∧ _)
        ((b'.cell (p := ⟨bs, offs + i, none⟩) (by show bs < _; have := hb6.size; omega)).trans d0')
        (((bCall hb6 b').cell (p := ⟨bb, offb + k * 6, none⟩) hbb).trans o0) (((bCall hb6 b').cell (p := ⟨bb, offb + k * 6 + 1, none⟩) hbb).trans o1) (((bCall hb6 b').cell (p := ⟨bb, offb + k * 6 + 2, none⟩) hbb).trans o2)
        (((bCall hb6 b').cell (p := ⟨bb, offb + k * 6 + 3, none⟩) hbb).trans o3) (((bCall hb6 b').cell (p := ⟨bb, offb + k * 6 + 4, none⟩) hbb).trans o4) (((bCall hb6 b').cell (p := ⟨bb, offb + k * 6 + 5, none⟩) hbb).trans o5))
      go_cut [14, 15] from 123 to 134 (fun s14 s15 wc => ∃ lb, s14 = .pointer (some ⟨lb, 0, none⟩) ∧ s15 = .int .i64 0 ∧ Blk wc lb 56 #[.int .i64 sv.a0, .int .i64 sv.b0, .int .i64 sv.a1, .int .i64 sv.b1, .int .i64 sv.a2, .int .i64 sv.b2] ∧ Below w6.heap.size w6 wc)
      case first =>
        go_region_held3 (fun w' => w'.cell? ⟨bs, offs + i, none⟩ = some (.int .i64 s) ∧ w'.cell? ⟨bb, offb + k * 6, none⟩ = some (.int .i64 x.a0) ∧ w'.cell? ⟨bb, offb + k * 6 + 1, none⟩ = some (.int .i64 x.b0) ∧ w'.cell? ⟨bb, offb + k * 6 + 2, none⟩ = some (.int .i64 x.a1) ∧ w'.cell? ⟨bb, offb + k * 6 + 3, none⟩ = some (.int .i64 x.b1) ∧ w'.cell? ⟨bb, offb + k * 6 + 4, none⟩ = some (.int .i64 x.a2) ∧ w'.cell? ⟨bb, offb + k * 6 + 5, none⟩ = some (.int .i64 x.b2))
          (exact KS.out _ (by repeat (first | with_reducible exact B7 | with_reducible exact bRefl _ | with_reducible refine bAl ?_ _ | with_reducible refine bDr ?_ | with_reducible refine bSet ?_ (by exact Nat.le_refl _) _)))
          (first
          | (go_simp; go_at_call 18; (with_reducible refine (qs.out _).mono ?_); rintro e w7 ⟨rfl, b7⟩; have B7 : Below w6.heap.size w6 w7 := bCall (by repeat (first | exact bRefl _ | refine bAl ?_ _ | refine bDr ?_)) b7; (try (have BZ : Blk w7 w6.heap.size 56 #[.int .i64 0, .int .i64 0, .int .i64 0, .int .i64 0, .int .i64 0, .int .i64 0] := Blk.below (by first | exact Blk.new _ _ _ _ rfl | exact Blk.dr (Blk.new _ _ _ _ rfl)) b7 (by simp); obtain ⟨k0, k1, k2, k3, k4, k5⟩ := BZ.six; obtain ⟨z0, z1, z2, z3, z4, z5⟩ := BZ.six_free))))
        all_goals
          go_wp2_with fail
          go_meet
          first
            | (with_reducible refine ⟨_, rfl, rfl, Blk.new _ _ _ _ rfl, bAl B7 _⟩; done)
            | exact ⟨_, rfl, rfl, BZ.set6 (.int .i64 sv.a0) (.int .i64 sv.b0) (.int .i64 sv.a1) (.int .i64 sv.b1) (.int .i64 sv.a2) (.int .i64 sv.b2), bSet6 B7 (Nat.le_refl _) (.int .i64 sv.a0) (.int .i64 sv.b0) (.int .i64 sv.a1) (.int .i64 sv.b1) (.int .i64 sv.a2) (.int .i64 sv.b2)⟩
      case rest =>
        obtain ⟨lb, rfl, rfl, BS, b8⟩ := hcut
        have BC8 := BC6.below b8 BC6.lt
        have BJ8 := BJ.below b8 BJ.lt
        have hb8 := bCall hb6 b8
        clear KS qs BC6 BJ hb6 d0' b8 z0 z1
        obtain ⟨s0, s1, s2, s3, s4, s5⟩ := BS.six
        have z0 : wc.cell? ⟨jb, 0, none⟩ = some (.slice A0 (c.jobAt i).bare.length n0) := (BJ8.cell 0).trans u0
        obtain ⟨b0, off0, hA0, hb0, r0, r1, r2, r3, r4, r5⟩ := Ltr_at hR0.1 (show k < (c.jobAt i).bare.length by omega) Hy.out
        subst hA0
        have x0 := (hb8.cell (p := ⟨b0, off0 + k * 6, none⟩) hb0).trans r0
        have x1 := (hb8.cell (p := ⟨b0, off0 + k * 6 + 1, none⟩) hb0).trans r1
        have x2 := (hb8.cell (p := ⟨b0, off0 + k * 6 + 2, none⟩) hb0).trans r2
        have x3 := (hb8.cell (p := ⟨b0, off0 + k * 6 + 3, none⟩) hb0).trans r3
        have x4 := (hb8.cell (p := ⟨b0, off0 + k * 6 + 4, none⟩) hb0).trans r4
        have x5 := (hb8.cell (p := ⟨b0, off0 + k * 6 + 5, none⟩) hb0).trans r5
        have hne := run_neS sv y
        unfold Ltr.agg at hne
        cases hr : sv.eqB y
        case false =>
          rw [hr] at hne
          clear hr
          obtain ⟨b1, off1, hA1, hb1, t0, t1, t2, t3, t4, t5⟩ := Ltr_at hR1.1 (show k < (c.jobAt i).proofs.length by omega) Hp.out
          subst hA1
          go_upto_region 24 with fail
          go_quiet (fail)
          clear s0 s1 s2 s3 s4 s5 x0 x1 x2 x3 x4 x5 hne z0
          have BJ9 : Blk (wc.drewN nq) jb 45 jc := BJ8
          have hb9 := bDrN hb8 nq
          clear BJ8 hb8 BC8 BS
          generalize wc.drewN nq = w9 at *
          have q : Hid (∀ (g1 g2 g3 : Nat) (w : World), Below W.heap.size W w → Blk w g1 56 #[.int .i64 x.a0, .int .i64 x.b0, .int .i64 x.a1, .int .i64 x.b1, .int .i64 x.a2, .int .i64 x.b2] → Blk w g2 56 #[.int .i64 y.a0, .int .i64 y.b0, .int .i64 y.a1, .int .i64 y.b1, .int .i64 y.a2, .int .i64 y.b2] → Blk w g3 74 #[.int .i64 p.a0, .int .i64 p.b0, .int .i64 p.a1, .int .i64 p.b1, .int .i64 p.a2, .int .i64 p.b2] →
              Calls Tryd.prog 19 #[.int .i64 pk, .slice (some ⟨g1, 0, none⟩) 1 1, .slice (some ⟨g2, 0, none⟩) 1 1, .slice (some ⟨g3, 0, none⟩) 1 1] w (Ret (.bool true) w)) := fun g1 g2 g3 w hw B1 B2 B3 => by
            have := equal_checkBare pk (some ⟨g1, 0, none⟩) (some ⟨g2, 0, none⟩) (some ⟨g3, 0, none⟩) 1 1 1 1 1 1 [x] [y] [p] w (Rd.of_blk B1 rfl rfl) (Rd.of_blk B2 rfl rfl) (Rd.of_blk B3 rfl rfl) (by omega) (by omega) (by omega) (hG.below hw)
            rw [show checkBareB pk [x] [y] [p] = true by rw [hpk.out, hkey.out]; exact Hcb.out] at this
            exact this
          have KS : Hid (∀ w', Below w9.heap.size w9 w' → w'.cell? ⟨bb, offb + k * 6, none⟩ = some (.int .i64 x.a0) ∧ w'.cell? ⟨bb, offb + k * 6 + 1, none⟩ = some (.int .i64 x.b0) ∧ w'.cell? ⟨bb, offb + k * 6 + 2, none⟩ = some (.int .i64 x.a1) ∧ w'.cell? ⟨bb, offb + k * 6 + 3, none⟩ = some (.int .i64 x.b1) ∧ w'.cell? ⟨bb, offb + k * 6 + 4, none⟩ = some (.int .i64 x.a2) ∧ w'.cell? ⟨bb, offb + k * 6 + 5, none⟩ = some (.int .i64 x.b2) ∧ w'.cell? ⟨jb, 0, none⟩ = some (.slice (some ⟨b0, off0, none⟩) (c.jobAt i).bare.length n0) ∧ w'.cell? ⟨b0, off0 + k * 6, none⟩ = some (.int .i64 y.a0) ∧ w'.cell? ⟨b0, off0 + k * 6 + 1, none⟩ = some (.int .i64 y.b0) ∧ w'.cell? ⟨b0, off0 + k * 6 + 2, none⟩ = some (.int .i64 y.a1) ∧ w'.cell? ⟨b0, off0 + k * 6 + 3, none⟩ = some (.int .i64 y.b1) ∧ w'.cell? ⟨b0, off0 + k * 6 + 4, none⟩ = some (.int .i64 y.a2) ∧ w'.cell? ⟨b0, off0 + k * 6 + 5, none⟩ = some (.int .i64 y.b2) ∧ w'.cell? ⟨jb, 1, none⟩ = some (.slice (some ⟨b1, off1, none⟩) (c.jobAt i).proofs.length n1) ∧ w'.cell? ⟨b1, off1 + k * 6, none⟩ = some (.int .i64 p.a0) ∧ w'.cell? ⟨b1, off1 + k * 6 + 1, none⟩ = some (.int .i64 p.b0) ∧ w'.cell? ⟨b1, off1 + k * 6 + 2, none⟩ = some (.int .i64 p.a1) ∧ w'.cell? ⟨b1, off1 + k * 6 + 3, none⟩ = some (.int .i64 p.b1) ∧ w'.cell? ⟨b1, off1 + k * 6 + 4, none⟩ = some (.int .i64 p.a2) ∧ w'.cell? ⟨b1, off1 + k * 6 + 5, none⟩ = some (.int .i64 p.b2)) := Lib.hid (fun w' b' => ⟨((bCall hb9 b').cell (p := ⟨bb, offb + k * 6, none⟩) hbb).trans o0, ((bCall hb9 b').cell (p := ⟨bb, offb + k * 6 + 1, none⟩) hbb).trans o1, ((bCall hb9 b').cell (p := ⟨bb, offb + k * 6 + 2, none⟩) hbb).trans o2, ((bCall hb9 b').cell (p := ⟨bb, offb + k * 6 + 3, none⟩) hbb).trans o3, ((bCall hb9 b').cell (p := ⟨bb, offb + k * 6 + 4, none⟩) hbb).trans o4, ((bCall hb9 b').cell (p := ⟨bb, offb + k * 6 + 5, none⟩) hbb).trans o5, ((BJ9.below b' BJ9.lt).cell 0).trans u0, ((bCall hb9 b').cell (p := ⟨b0, off0 + k * 6, none⟩) hb0).trans r0, ((bCall hb9 b').cell (p := ⟨b0, off0 + k * 6 + 1, none⟩) hb0).trans r1, ((bCall hb9 b').cell (p := ⟨b0, off0 + k * 6 + 2, none⟩) hb0).trans r2, ((bCall hb9 b').cell (p := ⟨b0, off0 + k * 6 + 3, none⟩) hb0).trans r3, ((bCall hb9 b').cell (p := ⟨b0, off0 + k * 6 + 4, none⟩) hb0).trans r4, ((bCall hb9 b').cell (p := ⟨b0, off0 + k * 6 + 5, none⟩) hb0).trans r5, ((BJ9.below b' BJ9.lt).cell 1).trans u1, ((bCall hb9 b').cell (p := ⟨b1, off1 + k * 6, none⟩) hb1).trans t0, ((bCall hb9 b').cell (p := ⟨b1, off1 + k * 6 + 1, none⟩) hb1).trans t1, ((bCall hb9 b').cell (p := ⟨b1, off1 + k * 6 + 2, none⟩) hb1).trans t2, ((bCall hb9 b').cell (p := ⟨b1, off1 + k * 6 + 3, none⟩) hb1).trans t3, ((bCall hb9 b').cell (p := ⟨b1, off1 + k * 6 + 4, none⟩) hb1).trans t4, ((bCall hb9 b').cell (p := ⟨b1, off1 + k * 6 + 5, none⟩) hb1).trans t5⟩)
          go_upto_region 25 with fail
          go_region_held3 (fun w' => w'.cell? ⟨bb, offb + k * 6, none⟩ = some (.int .i64 x.a0) ∧ w'.cell? ⟨bb, offb + k * 6 + 1, none⟩ = some (.int .i64 x.b0) ∧ w'.cell? ⟨bb, offb + k * 6 + 2, none⟩ = some (.int .i64 x.a1) ∧ w'.cell? ⟨bb, offb + k * 6 + 3, none⟩ = some (.int .i64 x.b1) ∧ w'.cell? ⟨bb, offb + k * 6 + 4, none⟩ = some (.int .i64 x.a2) ∧ w'.cell? ⟨bb, offb + k * 6 + 5, none⟩ = some (.int .i64 x.b2) ∧ w'.cell? ⟨jb, 0, none⟩ = some (.slice (some ⟨b0, off0, none⟩) (c.jobAt i).bare.length n0) ∧ w'.cell? ⟨b0, off0 + k * 6, none⟩ = some (.int .i64 y.a0) ∧ w'.cell? ⟨b0, off0 + k * 6 + 1, none⟩ = some (.int .i64 y.b0) ∧ w'.cell? ⟨b0, off0 + k * 6 + 2, none⟩ = some (.int .i64 y.a1) ∧ w'.cell? ⟨b0, off0 + k * 6 + 3, none⟩ = some (.int .i64 y.b1) ∧ w'.cell? ⟨b0, off0 + k * 6 + 4, none⟩ = some (.int .i64 y.a2) ∧ w'.cell? ⟨b0, off0 + k * 6 + 5, none⟩ = some (.int .i64 y.b2) ∧ w'.cell? ⟨jb, 1, none⟩ = some (.slice (some ⟨b1, off1, none⟩) (c.jobAt i).proofs.length n1) ∧ w'.cell? ⟨b1, off1 + k * 6, none⟩ = some (.int .i64 p.a0) ∧ w'.cell? ⟨b1, off1 + k * 6 + 1, none⟩ = some (.int .i64 p.b0) ∧ w'.cell? ⟨b1, off1 + k * 6 + 2, none⟩ = some (.int .i64 p.a1) ∧ w'.cell? ⟨b1, off1 + k * 6 + 3, none⟩ = some (.int .i64 p.b1) ∧ w'.cell? ⟨b1, off1 + k * 6 + 4, none⟩ = some (.int .i64 p.a2) ∧ w'.cell? ⟨b1, off1 + k * 6 + 5, none⟩ = some (.int .i64 p.b2))
            (exact KS.out _ (by repeat (first | with_reducible exact B7 | with_reducible exact bRefl _ | with_reducible refine bAl ?_ _ | with_reducible refine bDr ?_)))
            (first
            | (go_simp; go_at_call 19; (with_reducible refine (q.out _ _ _ _ (bCall hb9 (by repeat (first | with_reducible exact bRefl _ | with_reducible refine bAl ?_ _ | with_reducible refine bDr ?_))) (by (repeat (first | with_reducible refine Blk.dr ?_ | exact Blk.new _ _ _ _ (by simp) | with_reducible refine Blk.alloc ?_ _))) (by (repeat (first | with_reducible refine Blk.dr ?_ | exact Blk.new _ _ _ _ (by simp) | with_reducible refine Blk.alloc ?_ _))) (by (repeat (first | with_reducible refine Blk.dr ?_ | exact Blk.new _ _ _ _ (by simp) | with_reducible refine Blk.alloc ?_ _)))).mono ?_); rintro e wd ⟨rfl, b7⟩; have B7 : Below w9.heap.size w9 wd := bCall (by repeat (first | with_reducible exact bRefl _ | with_reducible refine bAl ?_ _ | with_reducible refine bDr ?_)) b7))
          all_goals
            go_wp2_with fail
            go_ret
            exact ⟨rfl, bCall hb9 B7⟩
        case true =>
          rw [hr] at hne
          have hxy : stripL s x = y := by rw [← hsv.out]; exact Ltr.eqB_iff.1 hr
          obtain ⟨on1, on2⟩ := at_on (fun k => (elem_ok (Hwok.out k)).1) HAt.out hlt Hval.out Hsec.out hkey.out Hy.out hxy (fun he => way_right Hway.out hlt HAt.out.way he)
          clear hr hxy
          obtain ⟨A2, n2', u2, hR2⟩ := a3.h2
          obtain ⟨A3, n3', u3, hR3⟩ := a3.h3
          obtain ⟨A4, n4', u4, hR4⟩ := a3.h4
          go_upto_region 24 with fail
          go_quiet (fail)
          clear s0 s1 s2 s3 s4 s5 x0 x1 x2 x3 x4 x5 hne z0
          have BJ9 : Blk (wc.drewN nq) jb 45 jc := BJ8
          have BC9 : Blk (wc.drewN nq) W.heap.size 33 cs := BC8
          have hb9 := bDrN hb8 nq
          clear BJ8 hb8 BC8 BS
          generalize wc.drewN nq = w9 at *
          have z0 : w9.cell? ⟨jb, 0, none⟩ = some (.slice (some ⟨b0, off0, none⟩) (c.jobAt i).bare.length n0) := (BJ9.cell 0).trans u0
          have z2 : w9.cell? ⟨jb, 2, none⟩ = some (.slice A2 (c.jobAt i).mi.length n2') := (BJ9.cell 2).trans u2
          have z3 : w9.cell? ⟨jb, 3, none⟩ = some (.slice A3 (c.jobAt i).mm.length n3') := (BJ9.cell 3).trans u3
          have z4 : w9.cell? ⟨jb, 4, none⟩ = some (.slice A4 (c.jobAt i).mo.length n4') := (BJ9.cell 4).trans u4
          obtain ⟨_, l2, l3, l4⟩ := a4
          have w1 : IntKind.i64.wrap (((c.jobAt i).mi.length : Int) + ((c.jobAt i).mm.length : Int)) = ((c.jobAt i).mi.length : Int) + ((c.jobAt i).mm.length : Int) := by rw [IntKind.wrap_i64]; omega
          have w2 : IntKind.i64.wrap (((c.jobAt i).mi.length : Int) + ((c.jobAt i).mm.length : Int) + ((c.jobAt i).mo.length : Int)) = ((c.jobAt i).mi.length : Int) + ((c.jobAt i).mm.length : Int) + ((c.jobAt i).mo.length : Int) := by rw [IntKind.wrap_i64]; omega
          cases hem : (c.jobAt i).emptyB
          case true =>
            have hz : (c.jobAt i).mi.length + (c.jobAt i).mm.length + (c.jobAt i).mo.length = 0 := by unfold Jb.emptyB at hem; exact of_decide_eq_true hem
            have tz : ((((c.jobAt i).mi.length : Int) + ((c.jobAt i).mm.length : Int) + ((c.jobAt i).mo.length : Int)) == 0) = true := by rw [beq_iff_eq]; omega
            have hinn : Hid (c.inAt (i + 1) = (c.jobAt i).bare) := Lib.hid (by show nextL _ = _; unfold nextL; rw [if_pos hem])
            have On := Lib.hid (on1 hem)
            clear hz hem on1 on2
            go_wp2_with fail
            exact ⟨⟨i + 1, k, y, some ⟨b0, off0, none⟩, n0, by omega, by go_num, rfl, by rw [hinn.out, f2], hb9, BC9, by rw [hinn.out]; exact hR0.1, On⟩, by simp [intOf]; omega⟩
          case false =>
            have tz : ((((c.jobAt i).mi.length : Int) + ((c.jobAt i).mm.length : Int) + ((c.jobAt i).mo.length : Int)) == 0) = false := by
              rw [beq_eq_false_iff_ne]
              unfold Jb.emptyB at hem
              have := of_decide_eq_false hem
              omega
            have hinn : Hid (c.inAt (i + 1) = (c.jobAt i).mo) := Lib.hid (by show nextL _ = _; unfold nextL; rw [if_neg (by rw [hem]; simp)])
            obtain ⟨hst2, hr0, zz, hon⟩ := on2 hem
            have On := Lib.hid hon
            obtain ⟨bt, offt, hAT, hbt, g0⟩ := step_cell hRT h.stepOk hst2
            have y13 : w9.cell? ⟨W.heap.size, 13, none⟩ = some (.slice AT c.steps.length ct) := (BC9.cell 13).trans k13
            rw [hAT] at y13
            have g1 := (hb9.cell (p := ⟨bt, offt + i * 74 + 37, none⟩) hbt).trans g0
            have j5 : ¬ (c.steps.length : Int) ≤ (i : Int) := by omega
            have j6 : (i : Int) < (c.steps.length : Int) := by omega
            have hrt : Hid ((c.stepAt i).right.at_ = (((c.stepAt i).right.at_.toNat : Nat) : Int)) := Lib.hid (by omega)
            generalize (c.stepAt i).right.at_ = ra at *
            clear hem on1 on2 hon g0
            go_wp2_with fail
            exact ⟨⟨i + 1, ra.toNat, zz, A4, n4', by omega, by go_num, congrArg (Value.int .i64) hrt.out, by rw [hinn.out], hb9, BC9, by rw [hinn.out]; exact hR4.1, On⟩, by simp [intOf]; omega⟩
    · have hie : i = c.keys.length := by omega
      subst hie
      have hrd := at_end Hwok.out HAt.out
      have hgx := HAt.out.good
      have qr := el_read x wr
      rw [hrd, show x.err = 0 from if_pos hgx] at qr
      unfold Ltr.agg Wd.agg at qr
      clear hrd hgx
      obtain ⟨bb, offb, hAb, hbb, o0, o1, o2, o3, o4, o5⟩ := Ltr_at (hRb.below hb) hk HAt.out.here
      subst hAb
      have v0 : ¬ (k : Int) < 0 := by omega
      have v1 : ¬ ((c.inAt c.keys.length).length : Int) ≤ (k : Int) := by omega
      have m0 : (0 : Int) ≤ (k : Int) := by omega
      have m1 : (k : Int) < ((c.inAt c.keys.length).length : Int) := by omega
      go_wp2_with fail
      (with_reducible refine qr.mono ?_)
      rintro e w5 ⟨rfl, b5⟩
      have BC5 := BC.below b5 BC.lt
      have hb5 := bCall hb b5
      clear qr o0 o1 o2 o3 o4 o5 BC b5 y4
      go_upto_region 35 with fail
      have BW := Blk.new w5 28 #[.int .i64 c.words.x, .int .i64 c.words.y, .int .i64 c.words.z] _ rfl
      have BC6 := BC5.alloc (.cells #[.int .i64 c.words.x, .int .i64 c.words.y, .int .i64 c.words.z] 28)
      have hb6 := bAl hb5 (.cells #[.int .i64 c.words.x, .int .i64 c.words.y, .int .i64 c.words.z] 28)
      clear BC5 hb5 hb
      generalize w5.alloc (.cells #[.int .i64 c.words.x, .int .i64 c.words.y, .int .i64 c.words.z] 28) = w6 at *
      have x0 : w6.cell? ⟨w5.heap.size, 0, none⟩ = some (.int .i64 c.words.x) := BW.cell 0
      have x1 : w6.cell? ⟨w5.heap.size, 1, none⟩ = some (.int .i64 c.words.y) := BW.cell 1
      have x2 : w6.cell? ⟨w5.heap.size, 2, none⟩ = some (.int .i64 c.words.z) := BW.cell 2
      have y7 := (BC6.cell 7).trans h.w0
      have y8 := (BC6.cell 8).trans h.w1
      have y9 := (BC6.cell 9).trans h.w2
      have hq := run_eqW c.words c.words
      rw [Wd.eqB_iff.2 rfl] at hq
      unfold Wd.agg at hq
      go_wp2_with fail
      go_ret
      exact ⟨rfl, hb6⟩
end Go.Proofs.YthgppaiiapkdjaaDoor
