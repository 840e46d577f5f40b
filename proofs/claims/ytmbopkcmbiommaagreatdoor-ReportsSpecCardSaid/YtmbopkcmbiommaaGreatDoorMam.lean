/-
  registry: the kinds' map; its conditions; walked.
-/
import Derived.Test.YtmbopkcmbiommaaGreatDoorMak
import Derived.Test.YtmbopkcmbiommaaGreatDoorMal
import Derived.Maps.OwnSet
namespace Go.Proofs.YtmbopkcmbiommaaGreatDoor
open Go Go.RowKit Go.Maps

/-- A map that a call makes, its values held, and which keys are there. -/
def FMap (P : Program) (k : TypeId) (w : World) (b n : Nat) (s : Int → Option Value) : Prop :=
  ∃ D : DataW Value, w.ownsMap P k heldR b n D ∧ IsMap D ∧ ∀ i : Int, (∀ z, D.atKey (.int .i64 i) (.held z) = .held ((s i).getD z)) ∧ has D (.int .i64 i) = (s i).isSome
/-- The same, in a block that is not older than m. -/
structure FM (P : Program) (k : TypeId) (m : Nat) (W w : World) (b n : Nat) (s : Int → Option Value) : Prop where
  mp : FMap P k w b n s
  bl : Below m W w
  old : m ≤ b
section
variable {P : Program} {k e t : TypeId} {W w w' : World} {b n m : Nat} {s : Int → Option Value}
theorem FM.made (w : World) (P : Program) (k : TypeId) : FM P k w.heap.size w (w.alloc (.map #[] 0)) w.heap.size 0 (fun _ => none) :=
  ⟨⟨.map [], World.ownsMap_made w P k _, isMap_empty, fun _ => ⟨fun _ => rfl, rfl⟩⟩, bAl (bRefl w) _, Nat.le_refl _⟩
theorem FM.look (h : FM P k m W w b n s) (hk : P.underlying k = some (.int .i64)) (ht : P.underlying t = some (.map k e)) {z : Value} (hz : (zeroValue e).run P w = .ok z w)
    {i : Int} (hi : (Lit.int .i64 i).wf = true) : (Instr.lookup t (.map (some b)) (.int .i64 i) true).run P w = .ok (.tuple #[(s i).getD z, .bool (s i).isSome]) w := by
  obtain ⟨D, h1, _, h3⟩ := h.mp
  obtain ⟨v, ps, hrun, hv⟩ := h1.look_ok (int_keyed hk) ht hz (zd := .held z) rfl (keyOf_int_mk hk hi)
  rw [(h3 i).1] at hv
  rw [hrun, (h3 i).2]
  have : v = (s i).getD z := by
    have h4 : (some (DataW.held v, ([] : List MemPlace))) = some (DataW.held ((s i).getD z), ps) := hv
    injection h4 with h4
    injection h4 with h4
    injection h4
  rw [this]
theorem FM.store (h : FM P k m W w b n s) (hk : P.underlying k = some (.int .i64)) (ht : P.underlying t = some (.map k e)) (hn : n < 1000000) (i : Int) (v : Value) (hi : (Lit.int .i64 i).wf = true) :
    ∃ w', (Instr.mapUpdate t (.map (some b)) (.int .i64 i) v).run P w = .ok () w' ∧ FM P k m W w' b (n + 1) (fun j => if j = i then some v else s j) := by
  obtain ⟨D, h1, h2, h3⟩ := h.mp
  obtain ⟨w', r1, r2, r3⟩ := h1.update (int_keyed hk) ht (by unfold maxLen; omega) (keyOf_int_mk hk hi) (val := v) (d := .held v) (ps := []) rfl
  have hlt := h1.lt
  refine ⟨w', r1, ⟨_, r2, h2.put _ _, fun j => ?_⟩, h.bl.grown r3 (by have := h.bl.size; have := h.old; omega) (fun q e => by cases e; exact h.old), h.old⟩
  by_cases hj : j = i
  · subst hj
    refine ⟨fun z => ?_, ?_⟩
    · rw [atKey_put_same h2 (k := .int .i64 j) (by exact trivial)]; simp
    · rw [has_put_same h2 (k := .int .i64 j) (by exact trivial)]; simp
  · refine ⟨fun z => ?_, ?_⟩
    · rw [atKey_put_other (by intro h; injection h with _ h; exact hj h), (h3 j).1]; simp [hj]
    · rw [has_put_other (by intro h; injection h with _ h; exact hj h), (h3 j).2]; simp [hj]
theorem wpList_insert_f {ops : Array Oper} {rest : List Oper} {o : Oper} {a : Act} {Q : Exit → Act → World → Prop}
    (hg : o.guard = none) (mo x v : Operand) (t : TypeId) (hop : o.op = Op.insert t mo x v) (h : FM P k m W w b n s) (hk : P.underlying k = some (.int .i64)) (ht : P.underlying t = some (.map k e))
    (hm : a.eval mo = .map (some b)) (hn : n < 1000000) (i : Int) (y : Value) (hx : a.eval x = .int .i64 i) (hv : a.eval v = y) (hi : (Lit.int .i64 i).wf = true)
    (hK : ∀ w', FM P k m W w' b (n + 1) (fun j => if j = i then some y else s j) → wpList P ops Q rest (a.put o.dst undef) w') :
    wpList P ops Q (o :: rest) a w := by
  refine wpList_plain hg fun K' hK' => ?_
  obtain ⟨w', hrun, r1⟩ := h.store hk ht hn i y hi
  unfold Oper.wp
  simp [execOp, hop, hm, hx, hv, hrun, Result.andThen]
  exact hK' _ _ (hK w' r1)
end
def kindS (i : Int) : Option Value := if i = 4 then some (.func (.func 149) #[] #[]) else if i = 3 then some (.func (.func 149) #[] #[]) else if i = 2 then some (.func (.func 151) #[] #[]) else if i = 1 then some (.func (.func 150) #[] #[]) else none
set_option maxRecDepth 100000 in
set_option maxHeartbeats 2000000 in
theorem reg_kinds (i : Int) (W : World) (hi : (Lit.int .i64 i).wf = true) : Calls Tryz.prog 138 #[] W (fun r w' => ∃ b, r = .returned (.map (some b)) ∧ Below W.heap.size W w' ∧ (Instr.lookup 190 (.map (some b)) (.int .i64 i) true).run Tryz.prog w' = .ok (.tuple #[(kindS i).getD .nilFunc, .bool (kindS i).isSome]) w') := by
  have hmm := @run_makeMap Tryz.prog
  go_enter Tryz.func138, Tryz.ntmps138
  go_wp2_with (refine wpList_insert_f rfl _ _ _ 190 rfl (by first | assumption | exact FM.made W _ _) Tryz.underlying3 Tryz.underlying190 rfl (by omega) _ _ rfl rfl (by decide) ?_; intro w5 hm)
  go_ret
  exact ⟨_, rfl, hm.bl, hm.look Tryz.underlying3 Tryz.underlying190 (by kernel_rfl) hi⟩
theorem reg_id (n : Int) (W : World) : Calls Tryz.prog 139 #[.int .i64 n] W (Same (.bool (idB n)) W) := by
  unfold idB btw
  cases h1 : decide (0 ≤ n) <;> cases h2 : decide (n ≤ 1048576)
  all_goals
    go_enter Tryz.func139, Tryz.ntmps139
    go_wp2_with fail
    go_ret
    exact ⟨by simp_all, rfl⟩
theorem reg_span (a b : Int) (W : World) : Calls Tryz.prog 140 #[.int .i64 a, .int .i64 b] W (Same (.bool (spanB a b)) W) := by
  have e : spanB a b = (decide (0 ≤ a) && decide (a < b) && decide (b ≤ 2097152)) := by unfold spanB; rw [Bool.eq_iff_iff]; simp [and_assoc]
  rw [e]
  cases h1 : decide (0 ≤ a) <;> cases h2 : decide (a < b) <;> cases h3 : decide (b ≤ 2097152)
  all_goals
    go_enter Tryz.func140, Tryz.ntmps140
    go_wp2_with fail
    go_ret
    exact ⟨by simp_all, rfl⟩
theorem reg_f1 (a b : Int) (W : World) : Calls Tryz.prog 150 #[.int .i64 a, .int .i64 b] W (Same (.bool (blw b 24)) W) := by
  unfold blw
  cases h1 : decide (0 ≤ b) <;> cases h2 : decide (b < 24)
  all_goals
    go_enter Tryz.func150, Tryz.ntmps150
    go_wp2_with fail
    go_ret
    exact ⟨by simp_all, rfl⟩
theorem reg_f3 (a b : Int) (W : World) : Calls Tryz.prog 149 #[.int .i64 a, .int .i64 b] W (Same (.bool (decide (b = 0))) W) := by
  go_enter Tryz.func149, Tryz.ntmps149
  go_wp2_with fail
  go_ret
  exact ⟨ret_bool (by by_cases h : b = 0 <;> simp [h]), rfl⟩
theorem reg_f2 (a b : Int) (W : World) : Calls Tryz.prog 151 #[.int .i64 a, .int .i64 b] W (Same (.bool (decide (a ≠ b) && idB b)) W) := by
  have q := reg_id b W
  generalize idB b = v at *
  by_cases h : a = b
  · subst h
    clear q
    go_enter Tryz.func151, Tryz.ntmps151
    go_wp2_with fail
    go_ret
    exact ⟨ret_bool (by simp), rfl⟩
  · have hne : (a != b) = true := by simpa using h
    go_enter Tryz.func151, Tryz.ntmps151
    go_wp2_with fail
    (with_reducible refine q.mono ?_)
    rintro e w3 ⟨rfl, rfl⟩
    go_wp2_with fail
    go_ret
    exact ⟨ret_bool (by simp [h]), rfl⟩
end Go.Proofs.YtmbopkcmbiommaaGreatDoor

/-
  registry.check, registry.Check; walked.
-/
namespace Go.Proofs.YtmbopkcmbiommaaGreatDoor
open Go Go.RowKit

theorem reg_kind (x : Ent) : ((kindS x.kind).isSome = false ∧ x.fits = false) ∨ ((kindS x.kind).isSome = true ∧ ∃ f, (kindS x.kind).getD .nilFunc = .func (.func f) #[] #[] ∧ (∀ w, Calls Tryz.prog f #[.int .i64 x.a, .int .i64 x.b] w (Same (.bool x.fits) w)) ∧ ∀ args w, (callFunc f args).run Tryz.prog w = .ok (.enter f args) w) := by
  unfold kindS Ent.fits
  by_cases h4 : x.kind = 4
  · rw [if_pos h4, if_neg (by omega), if_neg (by omega)]
    refine .inr ⟨rfl, _, rfl, fun w => ?_, enters_of Tryz.func149 (by kernel_rfl) rfl⟩
    rw [show decide ((x.kind = 3 ∨ x.kind = 4) ∧ x.b = 0) = decide (x.b = 0) by simp [h4]]
    exact reg_f3 _ _ w
  by_cases h3 : x.kind = 3
  · rw [if_neg h4, if_pos h3, if_neg (by omega), if_neg (by omega)]
    refine .inr ⟨rfl, _, rfl, fun w => ?_, enters_of Tryz.func149 (by kernel_rfl) rfl⟩
    rw [show decide ((x.kind = 3 ∨ x.kind = 4) ∧ x.b = 0) = decide (x.b = 0) by simp [h3]]
    exact reg_f3 _ _ w
  by_cases h2 : x.kind = 2
  · rw [if_neg h4, if_neg h3, if_pos h2, if_neg (by omega), if_pos h2]
    exact .inr ⟨rfl, _, rfl, fun w => reg_f2 _ _ w, enters_of Tryz.func151 (by kernel_rfl) rfl⟩
  by_cases h1 : x.kind = 1
  · rw [if_neg h4, if_neg h3, if_neg h2, if_pos h1, if_pos h1]
    exact .inr ⟨rfl, _, rfl, fun w => reg_f1 _ _ w, enters_of Tryz.func150 (by kernel_rfl) rfl⟩
  · rw [if_neg h4, if_neg h3, if_neg h2, if_neg h1, if_neg h1, if_neg h2]
    exact .inl ⟨rfl, by simp [h3, h4]⟩
set_option maxRecDepth 100000 in
set_option maxHeartbeats 4000000 in
theorem reg_check (x : Ent) (W : World) (hi : (Lit.int .i64 x.kind).wf = true) : Calls Tryz.prog 117 #[.agg x.cl.toArray] W (Ret (.int .i64 (if x.right = true then 0 else 330)) W) := by
  have BX := Blk.new W 67 x.cl.toArray _ rfl
  have hb := bAl (bRefl W) (.cells x.cl.toArray 67)
  have hK := reg_kind x
  have qk := Lib.hid (fun w => reg_kinds x.kind w hi)
  have q1 := Lib.hid (fun w => reg_id x.no w)
  have q2 := Lib.hid (fun w => reg_id x.a w)
  have q4 := Lib.hid (fun w => reg_span x.from_ x.until_ w)
  have q5 := Lib.hid (fun w => reg_span x.known x.gone w)
  obtain ⟨v, hv⟩ : ∃ v : Int, Hid ((if x.right = true then 0 else 330) = v) := ⟨_, Lib.hid rfl⟩
  rw [hv.out]
  unfold Ent.right at hv
  generalize (kindS x.kind).isSome = ok at *
  generalize (kindS x.kind).getD .nilFunc = fv at *
  generalize x.fits = y3 at *
  generalize idB x.no = y1 at *
  generalize idB x.a = y2 at *
  generalize spanB x.from_ x.until_ = y4 at *
  generalize spanB x.known x.gone = y5 at *
  clear hi
  go_enter Tryz.func117, Tryz.ntmps117
  go_upto_region 1 with fail
  have KS : Hid (∀ w', Below (W.alloc (.cells x.cl.toArray 67)).heap.size (W.alloc (.cells x.cl.toArray 67)) w' → w'.cell? ⟨W.heap.size, 1, none⟩ = some (.int .i64 x.kind)) := Lib.hid (fun w' b => (BX.below b BX.lt).cell 1)
  have hbx := Lib.hid (fun w' (b : Below (W.alloc (.cells x.cl.toArray 67)).heap.size (W.alloc (.cells x.cl.toArray 67)) w') => bCall hb b)
  clear hb
  generalize W.alloc (.cells x.cl.toArray 67) = w1 at *
  refine wp_region_schN (g := 0) KS [(1, 1), (2, 2), (0, 0), (3, 0), (4, 1), (5, 1), (6, 1), (7, 0), (8, 0)] ?_
  simp only [pickS, List.getElem?_cons_zero, List.getElem?_cons_succ]
  refine wpSchedN_t ?_
  refine wpSchedN_r ?_
  refine wpSchedN_force (fun K hK => ?_)
  go_simp; (first | (go_at_call 138; (with_reducible refine (qk.out _).mono ?_); rintro e w6 ⟨mb, rfl, b6, hlk⟩; have B6 : Below w1.heap.size w1 w6 := bCall (bDr (bRefl _)) b6) | skip)
  refine shut_go hK KS ?_
  clear hK K
  refine wpSchedN_force (fun K hK => ?_)
  go_simp; (first | (go_at_call 138; (with_reducible refine (qk.out _).mono ?_); rintro e w6 ⟨mb, rfl, b6, hlk⟩; have B6 : Below w1.heap.size w1 w6 := bCall (bDr (bRefl _)) b6) | skip)
  refine shut_go hK KS ?_
  clear hK K
  refine wpSchedN_t ?_
  refine wpSchedN_t ?_
  refine wpSchedN_t ?_
  refine wpSchedN_force (fun K hK => ?_)
  go_simp; (first | (go_at_call 138; (with_reducible refine (qk.out _).mono ?_); rintro e w6 ⟨mb, rfl, b6, hlk⟩; have B6 : Below w1.heap.size w1 w6 := bCall (bDr (bRefl _)) b6) | skip)
  refine shut_go hK KS ?_
  clear hK K
  refine wpSchedN_force (fun K hK => ?_)
  go_simp; (first | (go_at_call 138; (with_reducible refine (qk.out _).mono ?_); rintro e w6 ⟨mb, rfl, b6, hlk⟩; have B6 : Below w1.heap.size w1 w6 := bCall (bDr (bRefl _)) b6) | skip)
  refine shut_go hK KS ?_
  clear hK K
  refine anyN_end ?_
  refine NoPanic.normal ?_
  have hb := hbx.out _ B6
  replace BX := BX.below B6 BX.lt
  clear KS hbx qk hlk b6 B6
  have d0 := BX.cell 0
  have d2 := BX.cell 2
  have d3 := BX.cell 3
  have d4 := BX.cell 4
  have d5 := BX.cell 5
  have d6 := BX.cell 6
  have d7 := BX.cell 7
  simp only [Ent.cl, List.getElem?_toArray, List.getElem?_cons_zero, List.getElem?_cons_succ] at d0 d2 d3 d4 d5 d6 d7
  clear BX
  rcases hK with ⟨rfl, rfl⟩ | ⟨rfl, f, rfl, q3, he⟩
  · have hr : Hid (v = 330) := Lib.hid (by rw [← hv.out]; simp)
    clear hv
    go_wp2_with fail
    go_ret
    exact ⟨ret_int hr.out.symm, hb⟩
  replace q3 := Lib.hid q3
  replace he := Lib.hid he
  cases y1
  · have hr : Hid (v = 330) := Lib.hid (by rw [← hv.out]; rfl)
    clear hv
    go_wp2_with fail
    (with_reducible refine (q1.out _).mono ?_)
    rintro e w3 ⟨rfl, rfl⟩
    go_wp2_with fail
    go_ret
    exact ⟨ret_int hr.out.symm, hb⟩
  cases y2
  · have hr : Hid (v = 330) := Lib.hid (by rw [← hv.out]; rfl)
    clear hv
    go_wp2_with fail
    (with_reducible refine (q1.out _).mono ?_)
    rintro e w3 ⟨rfl, rfl⟩
    go_wp2_with fail
    (with_reducible refine (q2.out _).mono ?_)
    rintro e w3 ⟨rfl, rfl⟩
    go_wp2_with fail
    go_ret
    exact ⟨ret_int hr.out.symm, hb⟩
  cases y3
  · have hr : Hid (v = 330) := Lib.hid (by rw [← hv.out]; rfl)
    clear hv
    go_wp2_with fail
    (with_reducible refine (q1.out _).mono ?_)
    rintro e w3 ⟨rfl, rfl⟩
    go_wp2_with fail
    (with_reducible refine (q2.out _).mono ?_)
    rintro e w3 ⟨rfl, rfl⟩
    have he := he.out
    go_wp2_with fail
    (with_reducible refine (q3.out _).mono ?_)
    rintro e w3 ⟨rfl, rfl⟩
    clear he
    go_wp2_with fail
    go_ret
    exact ⟨ret_int hr.out.symm, hb⟩
  cases y4
  · have hr : Hid (v = 330) := Lib.hid (by rw [← hv.out]; rfl)
    clear hv
    go_wp2_with fail
    (with_reducible refine (q1.out _).mono ?_)
    rintro e w3 ⟨rfl, rfl⟩
    go_wp2_with fail
    (with_reducible refine (q2.out _).mono ?_)
    rintro e w3 ⟨rfl, rfl⟩
    have he := he.out
    go_wp2_with fail
    (with_reducible refine (q3.out _).mono ?_)
    rintro e w3 ⟨rfl, rfl⟩
    clear he
    go_wp2_with fail
    (with_reducible refine (q4.out _).mono ?_)
    rintro e w3 ⟨rfl, rfl⟩
    go_wp2_with fail
    go_ret
    exact ⟨ret_int hr.out.symm, hb⟩
  cases y5
  all_goals
    have hr := Lib.hid hv.out
    simp only [Bool.and_true, Bool.and_false, if_true, Bool.false_eq_true, if_false] at hr
    clear hv
    go_wp2_with fail
    (with_reducible refine (q1.out _).mono ?_)
    rintro e w3 ⟨rfl, rfl⟩
    go_wp2_with fail
    (with_reducible refine (q2.out _).mono ?_)
    rintro e w3 ⟨rfl, rfl⟩
    have he := he.out
    go_wp2_with fail
    (with_reducible refine (q3.out _).mono ?_)
    rintro e w3 ⟨rfl, rfl⟩
    clear he
    go_wp2_with fail
    (with_reducible refine (q4.out _).mono ?_)
    rintro e w3 ⟨rfl, rfl⟩
    go_wp2_with fail
    (with_reducible refine (q5.out _).mono ?_)
    rintro e w3 ⟨rfl, rfl⟩
    go_wp2_with fail
    go_ret
    exact ⟨ret_int hr.out, hb⟩
end Go.Proofs.YtmbopkcmbiommaaGreatDoor
