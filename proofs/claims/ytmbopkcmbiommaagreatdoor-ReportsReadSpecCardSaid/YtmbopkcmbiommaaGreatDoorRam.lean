/- registry.check, registry.Check; walked. -/
import Derived.Test.YtmbopkcmbiommaaGreatDoorRal
set_option maxRecDepth 1000000
set_option maxHeartbeats 16000000
namespace Go.Proofs.YtmbopkcmbiommaaGreatDoor
open Go Go.RowKit
theorem reg_kind (x : Ent) : ((kindS x.kind).isSome = false ∧ x.fits = false) ∨ ((kindS x.kind).isSome = true ∧ ∃ f, (kindS x.kind).getD .nilFunc = .func (.func f) #[] #[] ∧ (∀ w, Calls Tryz.prog f #[.int .i64 x.a, .int .i64 x.b] w (Same (.bool x.fits) w)) ∧ ∀ args w, (callFunc f args).run Tryz.prog w = .ok (.enter f args) w) := by
  unfold kindS Ent.fits
  by_cases h4 : x.kind = 4
  · rw [if_pos h4, if_neg (by omega), if_neg (by omega)]
    refine .inr ⟨rfl, _, rfl, fun w => ?_, enters_of Tryz.func149 (by kernel_rfl) rfl⟩
    rw [show decide ((x.kind = 3 ∨ x.kind = 4) ∧ x.b = 0) = decide (x.b = 0) by simp [h4]]
    exact reg_f3 _ _ w
  by_cases h3 : x.kind = 3
  · rw [if_neg h4, if_pos h3, if_neg (by omega), if_neg (by omega)]
    refine .inr ⟨rfl, _, rfl, fun w => ?_, enters_of Tryz.func149 (by kernel_rfl) rfl⟩
    rw [show decide ((x.kind = 3 ∨ x.kind = 4) ∧ x.b = 0) = decide (x.b = 0) by simp [h3]]
    exact reg_f3 _ _ w
  by_cases h2 : x.kind = 2
  · rw [if_neg h4, if_neg h3, if_pos h2, if_neg (by omega), if_pos h2]
    exact .inr ⟨rfl, _, rfl, fun w => reg_f2 _ _ w, enters_of Tryz.func151 (by kernel_rfl) rfl⟩
  by_cases h1 : x.kind = 1
  · rw [if_neg h4, if_neg h3, if_neg h2, if_pos h1, if_pos h1]
    exact .inr ⟨rfl, _, rfl, fun w => reg_f1 _ _ w, enters_of Tryz.func150 (by kernel_rfl) rfl⟩
  · rw [if_neg h4, if_neg h3, if_neg h2, if_neg h1, if_neg h1, if_neg h2]
    exact .inl ⟨rfl, by simp [h3, h4]⟩
theorem reg_check (x : Ent) (W : World) (hi : (Lit.int .i64 x.kind).wf = true) : Calls Tryz.prog 117 #[.agg x.cl.toArray] W (Ret (.int .i64 (if x.right = true then 0 else 330)) W) := by
  have BX := Blk.new W 67 x.cl.toArray _ rfl
  have hb := bAl (bRefl W) (.cells x.cl.toArray 67)
  have hK := reg_kind x
  have qk := Lib.hid (fun w => reg_kinds x.kind w hi)
  have q1 := Lib.hid (fun w => reg_id x.no w)
  have q2 := Lib.hid (fun w => reg_id x.a w)
  have q4 := Lib.hid (fun w => reg_span x.from_ x.until_ w)
  have q5 := Lib.hid (fun w => reg_span x.known x.gone w)
  obtain ⟨v, hv⟩ : ∃ v : Int, Hid ((if x.right = true then 0 else 330) = v) := ⟨_, Lib.hid rfl⟩
  rw [hv.out]
  unfold Ent.right at hv
  generalize (kindS x.kind).isSome = ok at *
  generalize (kindS x.kind).getD .nilFunc = fv at *
  generalize x.fits = y3 at *
  generalize idB x.no = y1 at *
  generalize idB x.a = y2 at *
  generalize spanB x.from_ x.until_ = y4 at *
  generalize spanB x.known x.gone = y5 at *
  clear hi
  go_enter Tryz.func117, Tryz.ntmps117
  go_upto_region 1 with fail
  have KS : Hid (∀ w', Below (W.alloc (.cells x.cl.toArray 67)).heap.size (W.alloc (.cells x.cl.toArray 67)) w' → w'.cell? ⟨W.heap.size, 1, none⟩ = some (.int .i64 x.kind)) := Lib.hid (fun w' b => (BX.below b BX.lt).cell 1)
  have hbx := Lib.hid (fun w' (b : Below (W.alloc (.cells x.cl.toArray 67)).heap.size (W.alloc (.cells x.cl.toArray 67)) w') => bCall hb b)
  clear hb
  generalize W.alloc (.cells x.cl.toArray 67) = w1 at *
  refine wp_region_schN (g := 0) KS [(1, 1), (2, 2), (0, 0), (3, 0), (4, 1), (5, 1), (6, 1), (7, 0), (8, 0)] ?_
  simp only [pickS, List.getElem?_cons_zero, List.getElem?_cons_succ]
  refine wpSchedN_t ?_
  refine wpSchedN_r ?_
  refine wpSchedN_force (fun K hK => ?_)
  go_simp; (first | (go_at_call 138; (with_reducible refine (qk.out _).mono ?_); rintro e w6 ⟨mb, rfl, b6, hlk⟩; have B6 : Below w1.heap.size w1 w6 := bCall (bDr (bRefl _)) b6) | skip)
  refine shut_go hK KS ?_
  clear hK K
  refine wpSchedN_force (fun K hK => ?_)
  go_simp; (first | (go_at_call 138; (with_reducible refine (qk.out _).mono ?_); rintro e w6 ⟨mb, rfl, b6, hlk⟩; have B6 : Below w1.heap.size w1 w6 := bCall (bDr (bRefl _)) b6) | skip)
  refine shut_go hK KS ?_
  clear hK K
  refine wpSchedN_t ?_
  refine wpSchedN_t ?_
  refine wpSchedN_t ?_
  refine wpSchedN_force (fun K hK => ?_)
  go_simp; (first | (go_at_call 138; (with_reducible refine (qk.out _).mono ?_); rintro e w6 ⟨mb, rfl, b6, hlk⟩; have B6 : Below w1.heap.size w1 w6 := bCall (bDr (bRefl _)) b6) | skip)
  refine shut_go hK KS ?_
  clear hK K
  refine wpSchedN_force (fun K hK => ?_)
  go_simp; (first | (go_at_call 138; (with_reducible refine (qk.out _).mono ?_); rintro e w6 ⟨mb, rfl, b6, hlk⟩; have B6 : Below w1.heap.size w1 w6 := bCall (bDr (bRefl _)) b6) | skip)
  refine shut_go hK KS ?_
  clear hK K
  refine anyN_end ?_
  refine NoPanic.normal ?_
  have hb := hbx.out _ B6
  replace BX := BX.below B6 BX.lt
  clear KS hbx qk hlk b6 B6
  have d0 := BX.cell 0
  have d2 := BX.cell 2
  have d3 := BX.cell 3
  have d4 := BX.cell 4
  have d5 := BX.cell 5
  have d6 := BX.cell 6
  have d7 := BX.cell 7
  simp only [Ent.cl, List.getElem?_toArray, List.getElem?_cons_zero, List.getElem?_cons_succ] at d0 d2 d3 d4 d5 d6 d7
  clear BX
  rcases hK with ⟨rfl, rfl⟩ | ⟨rfl, f, rfl, q3, he⟩
  · have hr : Hid (v = 330) := Lib.hid (by rw [← hv.out]; simp)
    clear hv
    go_wp2_with fail
    go_ret
    exact ⟨ret_int hr.out.symm, hb⟩
  replace q3 := Lib.hid q3
  replace he := Lib.hid he
  cases y1
  · have hr : Hid (v = 330) := Lib.hid (by rw [← hv.out]; rfl)
    clear hv
    go_wp2_with fail
    (with_reducible refine (q1.out _).mono ?_)
    rintro e w3 ⟨rfl, rfl⟩
    go_wp2_with fail
    go_ret
    exact ⟨ret_int hr.out.symm, hb⟩
  cases y2
  · have hr : Hid (v = 330) := Lib.hid (by rw [← hv.out]; rfl)
    clear hv
    go_wp2_with fail
    (with_reducible refine (q1.out _).mono ?_)
    rintro e w3 ⟨rfl, rfl⟩
    go_wp2_with fail
    (with_reducible refine (q2.out _).mono ?_)
    rintro e w3 ⟨rfl, rfl⟩
    go_wp2_with fail
    go_ret
    exact ⟨ret_int hr.out.symm, hb⟩
  cases y3
  · have hr : Hid (v = 330) := Lib.hid (by rw [← hv.out]; rfl)
    clear hv
    go_wp2_with fail
    (with_reducible refine (q1.out _).mono ?_)
    rintro e w3 ⟨rfl, rfl⟩
    go_wp2_with fail
    (with_reducible refine (q2.out _).mono ?_)
    rintro e w3 ⟨rfl, rfl⟩
    have he := he.out
    go_wp2_with fail
    (with_reducible refine (q3.out _).mono ?_)
    rintro e w3 ⟨rfl, rfl⟩
    clear he
    go_wp2_with fail
    go_ret
    exact ⟨ret_int hr.out.symm, hb⟩
  cases y4
  · have hr : Hid (v = 330) := Lib.hid (by rw [← hv.out]; rfl)
    clear hv
    go_wp2_with fail
    (with_reducible refine (q1.out _).mono ?_)
    rintro e w3 ⟨rfl, rfl⟩
    go_wp2_with fail
    (with_reducible refine (q2.out _).mono ?_)
    rintro e w3 ⟨rfl, rfl⟩
    have he := he.out
    go_wp2_with fail
    (with_reducible refine (q3.out _).mono ?_)
    rintro e w3 ⟨rfl, rfl⟩
    clear he
    go_wp2_with fail
    (with_reducible refine (q4.out _).mono ?_)
    rintro e w3 ⟨rfl, rfl⟩
    go_wp2_with fail
    go_ret
    exact ⟨ret_int hr.out.symm, hb⟩
  cases y5
  all_goals
    have hr := Lib.hid hv.out
    simp only [Bool.and_true, Bool.and_false, if_true, Bool.false_eq_true, if_false] at hr
    clear hv
    go_wp2_with fail
    (with_reducible refine (q1.out _).mono ?_)
    rintro e w3 ⟨rfl, rfl⟩
    go_wp2_with fail
    (with_reducible refine (q2.out _).mono ?_)
    rintro e w3 ⟨rfl, rfl⟩
    have he := he.out
    go_wp2_with fail
    (with_reducible refine (q3.out _).mono ?_)
    rintro e w3 ⟨rfl, rfl⟩
    clear he
    go_wp2_with fail
    (with_reducible refine (q4.out _).mono ?_)
    rintro e w3 ⟨rfl, rfl⟩
    go_wp2_with fail
    (with_reducible refine (q5.out _).mono ?_)
    rintro e w3 ⟨rfl, rfl⟩
    go_wp2_with fail
    go_ret
    exact ⟨ret_int hr.out, hb⟩
theorem registry_check (A : Option Addr) (c : Nat) (l : List Ent) (W : World) (hA : Rd W W.heap.size 8 A l.length (l.flatMap Ent.cl)) (hn : l.length ≤ 1000000) (hi : ∀ x ∈ l, (Lit.int .i64 x.kind).wf = true) :
    Calls Tryz.prog 69 #[.slice A l.length c] W (Ret (.int .i64 (entsE l)) W) := by
  obtain ⟨v, hv⟩ : ∃ v, Hid (entsE l = v) := ⟨_, Lib.hid rfl⟩
  rw [hv.out]
  go_enter Tryz.func69, Tryz.ntmps69
  by_cases l1 : 1024 < l.length
  · have hv2 : Hid (v = 2) := Lib.hid (by rw [← hv.out]; unfold entsE; rw [if_pos l1])
    have e1 : (1024 : Int) < (l.length : Int) := by omega
    clear l1
    go_wp2_with fail
    go_ret
    exact ⟨ret_int hv2.out.symm, bRefl W⟩
  have e1 : ¬ (1024 : Int) < (l.length : Int) := by omega
  have hv2 : Hid ((if entsB (-1) l = true then 0 else 330) = v) := Lib.hid (by rw [← hv.out]; unfold entsE; rw [if_neg l1])
  clear l1 hv
  go_wp2_with fail
  clear e1
  go_loopw [3, 12] (fun j i wr => ∃ (k : Nat) (b : Int), k ≤ l.length ∧ i = .int .i64 k ∧ j = .int .i64 b ∧ Below W.heap.size W wr ∧ Hid (entsB (-1) l = entsB b (l.drop k))) (fun _ i _ => l.length - (intOf i).toNat)
  case atStart => exact ⟨0, -1, Nat.zero_le _, rfl, rfl, bRefl W, Lib.hid rfl⟩
  case round =>
    obtain ⟨k, b0, hkn, rfl, rfl, hb, hp⟩ := hrel
    by_cases hlt : k < l.length
    · obtain ⟨x, hx⟩ : ∃ x, Hid (l[k]? = some x) := ⟨_, Lib.hid (List.getElem?_eq_getElem hlt)⟩
      have hxi := hi x (List.mem_of_getElem? hx.out)
      obtain ⟨b, off, rfl, hbb, hc⟩ := Cl_at (f := Ent.cl) (fun _ _ => rfl) (hA.below hb) hlt hx.out
      have c0 := hc 0 (by omega)
      have c1 := hc 1 (by omega)
      have c2 := hc 2 (by omega)
      have c3 := hc 3 (by omega)
      have c4 := hc 4 (by omega)
      have c5 := hc 5 (by omega)
      have c6 := hc 6 (by omega)
      have c7 := hc 7 (by omega)
      simp only [Ent.cl, List.getElem?_cons_zero, List.getElem?_cons_succ, Nat.add_zero] at c0 c1 c2 c3 c4 c5 c6 c7
      have i0 : (0 : Int) ≤ (k : Int) := by omega
      have i1 : (k : Int) < (l.length : Int) := by omega
      have hb2 := bAl hb (.cells x.cl.toArray 67)
      have BX := Blk.new wr 67 x.cl.toArray _ rfl
      have q := reg_check x (wr.alloc (.cells x.cl.toArray 67)) hxi
      have hdr : Hid (entsB (-1) l = ((x.right && decide (b0 < x.no)) && entsB x.no (l.drop (k + 1)))) := Lib.hid (by
        obtain ⟨e1, e2⟩ := List.getElem?_eq_some_iff.1 hx.out
        rw [hp.out, List.drop_eq_getElem_cons e1, e2]; rfl)
      generalize x.right = ok at q hdr
      have d0 := BX.cell 0
      have d1 := BX.cell 1
      have d2 := BX.cell 2
      have d3 := BX.cell 3
      have d4 := BX.cell 4
      have d5 := BX.cell 5
      have d6 := BX.cell 6
      have d7 := BX.cell 7
      unfold Ent.cl at q hb2 d0 d1 d2 d3 d4 d5 d6 d7
      simp only [List.getElem?_toArray, List.getElem?_cons_zero, List.getElem?_cons_succ] at d0 d1 d2 d3 d4 d5 d6 d7
      unfold Ent.cl at BX
      clear hc hp hxi
      cases ok
      · have hr : Hid (v = 330) := Lib.hid (by rw [← hv2.out, hdr.out]; rfl)
        clear hdr
        go_wp2_with fail
        (with_reducible refine q.mono ?_)
        rintro e w3 ⟨rfl, b3⟩
        replace hb := bCall hb2 b3
        clear q c0 c1 c2 c3 c4 c5 c6 c7 d0 d1 d2 d3 d4 d5 d6 d7
        go_wp2_with fail
        go_ret
        exact ⟨ret_int hr.out.symm, hb⟩
      by_cases hlo : b0 < x.no
      · have hp' : Hid (entsB (-1) l = entsB x.no (l.drop (k + 1))) := Lib.hid (by rw [hdr.out, decide_eq_true hlo]; rfl)
        have hng : ¬ x.no ≤ b0 := by omega
        clear hdr hlo
        go_wp2_with fail
        (with_reducible refine q.mono ?_)
        rintro e w3 ⟨rfl, b3⟩
        replace hb := bCall hb2 b3
        replace BX := BX.below b3 BX.lt
        clear q c0 c1 c2 c3 c4 c5 c6 c7 d0 d1 d2 d3 d4 d5 d6 d7
        have d0 := BX.cell 0
        go_wp2_with fail
        exact ⟨⟨k + 1, x.no, by omega, by go_num, rfl, hb, hp'⟩, by simp [intOf]; omega⟩
      · have hr : Hid (v = 330) := Lib.hid (by rw [← hv2.out, hdr.out, decide_eq_false hlo]; rfl)
        have hng : x.no ≤ b0 := by omega
        clear hdr hlo
        go_wp2_with fail
        (with_reducible refine q.mono ?_)
        rintro e w3 ⟨rfl, b3⟩
        replace hb := bCall hb2 b3
        replace BX := BX.below b3 BX.lt
        clear q c0 c1 c2 c3 c4 c5 c6 c7 d0 d1 d2 d3 d4 d5 d6 d7
        have d0 := BX.cell 0
        go_wp2_with fail
        go_ret
        exact ⟨ret_int hr.out.symm, hb⟩
    · have hr : Hid (v = 0) := Lib.hid (by rw [← hv2.out, hp.out, List.drop_of_length_le (by omega)]; rfl)
      clear hp hv2
      go_wp2_with fail
      go_ret
      exact ⟨ret_int hr.out.symm, hb⟩
end Go.Proofs.YtmbopkcmbiommaaGreatDoor
