/-
  post: caught (recover), must, need; a secret; cmp.Compare, cmp.Or; walked.
-/
import Derived.Test.YtmbopkcmbiommaaGreatDoorMan
namespace Go.Proofs.YtmbopkcmbiommaaGreatDoor
open Go.RowKit

theorem assert_errno (e : Int) (w : World) : (Instr.typeAssert (.iface 38 (.int .i64 e)) 20 38 true).run Tryz.prog w = .ok (.tuple #[.int .i64 e, .bool true]) w := by kernel_rfl
set_option maxHeartbeats 400000 in
theorem caught_panic (p : Addr) (e old : Int) (older : List PanicEntry) (w : World) (hc : w.cell? p = some (.int .i64 old)) (hz : w.frozen? p = false) :
    CallsD Tryz.prog 37 #[.pointer (some p)] (.panicking ({ v := .iface 38 (.int .i64 e), recovered := false } :: older)) w fun r u' w' =>
      r = .returned (.tuple #[]) ∧ u' = .panicking ({ v := .iface 38 (.int .i64 e), recovered := true } :: older) ∧ w' = w.setCell p (.int .i64 e) := by
  have hta := assert_errno e
  refine callsD_of_wpS Tryz.func37 rfl fun c₀ cs hu => ?_
  simp only [Tryz.ntmps37, List.size_toArray, List.length_cons, List.length_nil, Nat.reduceAdd, Nat.reduceSub, Array.replicate_succ,
     Array.replicate_zero, List.push_toArray, List.append_toArray, List.nil_append, List.cons_append]
  apply wpS_seq
  apply wpS_region
  simp [wpOpsS, go_sem, recoverD, hu, Exit.thenS]
  refine wpS_of_wp ?_
  go_wp2
  exact ⟨rfl, _, rfl, .tuple #[], by simp [results, Tryz.results37], rfl, rfl, rfl⟩
set_option maxHeartbeats 400000 in
theorem caught_idle (p : Addr) (w : World) :
    CallsD Tryz.prog 37 #[.pointer (some p)] .returning w fun r u' w' =>
      r = .returned (.tuple #[]) ∧ u' = .returning ∧ w' = w := by
  refine callsD_of_wpS Tryz.func37 rfl fun c₀ cs hu => ?_
  simp only [Tryz.ntmps37, List.size_toArray, List.length_cons, List.length_nil, Nat.reduceAdd, Nat.reduceSub, Array.replicate_succ,
     Array.replicate_zero, List.push_toArray, List.append_toArray, List.nil_append, List.cons_append]
  apply wpS_seq
  apply wpS_region
  simp [wpOpsS, go_sem, recoverD, hu, Exit.thenS]
  refine wpS_of_wp ?_
  go_wp2
  exact ⟨rfl, .returning, by cases c₀; simp_all, .tuple #[], by simp [results, Tryz.results37], rfl, rfl, rfl⟩
/-- The door behind which caught waits: the function returns. -/
theorem door_idle {fn : Func} {tmps : Array Value} {R : Ending → World → Prop} (p : Addr) (w : World) (v : Value)
    (hr : (results fn tmps).run Tryz.prog w = .ok v w) (h : R (.returned v) w) :
    Leaves Tryz.prog fn tmps R [{ target := .fn (.func 37) #[], args := #[.pointer (some p)] }] .returning w := by
  refine leaves_cons (f := 37) (args := #[.pointer (some p)]) (by simp) (by simp [go_sem]) ?_
  refine (caught_idle p w).mono ?_
  rintro r u' w' ⟨rfl, rfl, rfl⟩
  exact ⟨v, hr, h⟩
/-- The function has panicked with an error. -/
theorem door_panic {fn : Func} {tmps : Array Value} {R : Ending → World → Prop} (p : Addr) (e old : Int) (w : World) (v : Value) (hc : w.cell? p = some (.int .i64 old)) (hz : w.frozen? p = false)
    (hr : (results fn tmps).run Tryz.prog (w.setCell p (.int .i64 e)) = .ok v (w.setCell p (.int .i64 e))) (h : R (.returned v) (w.setCell p (.int .i64 e))) :
    Leaves Tryz.prog fn tmps R [{ target := .fn (.func 37) #[], args := #[.pointer (some p)] }] (.panicking [{ v := .iface 38 (.int .i64 e), recovered := false }]) w := by
  refine leaves_cons (f := 37) (args := #[.pointer (some p)]) (by simp) (by simp [go_sem]) ?_
  refine (caught_panic p e old [] w hc hz).mono ?_
  rintro r u' w' ⟨rfl, rfl, rfl⟩
  exact ⟨v, hr, h⟩
/-- Panics with e. -/
def PanE (e : Int) : Ending := .panicked [{ v := .iface 38 (.int .i64 e), recovered := false }]
def MustPost (e : Int) (w : World) (r : Ending) (w' : World) : Prop :=
  w = w' ∧ ((e = 0 ∧ r = .returned (.tuple #[])) ∨ (e ≠ 0 ∧ r = .panicked [{ v := .iface 38 (.int .i64 e), recovered := false }]))
theorem must_any (e : Int) (w : World) : Calls Tryz.prog 62 #[.int .i64 e] w (MustPost e w) := by
  by_cases h : e = 0
  · subst h
    go_enter Tryz.func62, Tryz.ntmps62
    go_wp2
    exact bodyPost_ret (results_none rfl _ _ _) rfl ⟨rfl, .inl ⟨rfl, rfl⟩⟩
  · have hb : (e != 0) = true := by simpa using h
    go_enter Tryz.func62, Tryz.ntmps62
    go_wp2
    exact ⟨rfl, rfl, .inr ⟨h, rfl⟩⟩
theorem need_any (b : Bool) (e : Int) (he : e ≠ 0) (w : World) : Calls Tryz.prog 65 #[.bool b, .int .i64 e] w (MustPost (if b = true then 0 else e) w) := by
  cases b
  · go_enter Tryz.func65, Tryz.ntmps65
    go_wp2
    exact ⟨rfl, rfl, .inr ⟨he, rfl⟩⟩
  · go_enter Tryz.func65, Tryz.ntmps65
    go_wp2
    exact bodyPost_ret (results_none rfl _ _ _) rfl ⟨rfl, .inl ⟨rfl, rfl⟩⟩
theorem secret_not (n : Int) (W : World) : Calls Tryz.prog 70 #[.int .i64 n] W (Same (.bool (!secretB n)) W) := by
  have e : (!secretB n) = (decide (n < 1) || decide (1073741789 ≤ n)) := by
    unfold secretB
    rw [Bool.eq_iff_iff]
    simp only [Bool.not_eq_true', decide_eq_false_iff_not, Bool.or_eq_true, decide_eq_true_iff]
    omega
  rw [e]
  cases h1 : decide (n < 1) <;> cases h2 : decide (1073741789 ≤ n)
  all_goals
    go_enter Tryz.func70, Tryz.ntmps70
    go_wp2_with fail
    go_ret
    exact ⟨by simp_all, rfl⟩
/-- cmp.Compare. -/
def cmpV (a b : Int) : Int := if a < b then -1 else if b < a then 1 else 0
theorem cmp_nan (n : Int) (W : World) : Calls Tryz.prog 119 #[.int .i64 n] W (Same (.bool false) W) := by
  have hne : (n != n) = false := by simp
  go_enter Tryz.func119, Tryz.ntmps119
  go_wp2_with fail
  go_ret
  exact ⟨by simp, rfl⟩
theorem cmp_compare (a b : Int) (W : World) : Calls Tryz.prog 73 #[.int .i64 a, .int .i64 b] W (Same (.int .i64 (cmpV a b)) W) := by
  have q1 := Lib.hid (cmp_nan a W)
  have q2 := Lib.hid (cmp_nan b W)
  unfold cmpV
  by_cases h1 : a < b
  · rw [if_pos h1]
    go_enter Tryz.func73, Tryz.ntmps73
    go_wp2_with fail
    (with_reducible refine q1.out.mono ?_)
    rintro e w3 ⟨rfl, rfl⟩
    go_wp2_with fail
    (with_reducible refine q2.out.mono ?_)
    rintro e w3 ⟨rfl, rfl⟩
    go_wp2_with fail
    go_ret
    exact ⟨rfl, rfl⟩
  rw [if_neg h1]
  by_cases h2 : b < a
  · rw [if_pos h2]
    go_enter Tryz.func73, Tryz.ntmps73
    go_wp2_with fail
    (with_reducible refine q1.out.mono ?_)
    rintro e w3 ⟨rfl, rfl⟩
    go_wp2_with fail
    (with_reducible refine q2.out.mono ?_)
    rintro e w3 ⟨rfl, rfl⟩
    go_wp2_with fail
    go_ret
    exact ⟨rfl, rfl⟩
  rw [if_neg h2]
  go_enter Tryz.func73, Tryz.ntmps73
  go_wp2_with fail
  (with_reducible refine q1.out.mono ?_)
  rintro e w3 ⟨rfl, rfl⟩
  go_wp2_with fail
  (with_reducible refine q2.out.mono ?_)
  rintro e w3 ⟨rfl, rfl⟩
  go_wp2_with fail
  go_ret
  exact ⟨rfl, rfl⟩
/-- cmp.Or of two. -/
theorem cmp_or (g : Nat) (a b : Int) (W : World) (h : Blk W g 3 #[.int .i64 a, .int .i64 b]) : Calls Tryz.prog 72 #[.slice (some ⟨g, 0, none⟩) 2 2] W (Same (.int .i64 (if a = 0 then b else a)) W) := by
  have c0 := h.cell 0
  have c1 := h.cell 1
  simp only [List.getElem?_toArray, List.getElem?_cons_zero, List.getElem?_cons_succ] at c0 c1
  clear h
  obtain ⟨v, hv⟩ : ∃ v, Hid ((if a = 0 then b else a) = v) := ⟨_, Lib.hid rfl⟩
  rw [hv.out]
  go_enter Tryz.func72, Tryz.ntmps72
  go_wp2_with fail
  go_loopw [8] (fun i wr => W = wr ∧ (i = .int .i64 0 ∨ i = .int .i64 1 ∧ Hid (a = 0) ∨ i = .int .i64 2 ∧ Hid (a = 0 ∧ b = 0))) (fun i _ => 2 - (intOf i).toNat)
  case atStart => exact ⟨rfl, .inl rfl⟩
  case round =>
    obtain ⟨rfl, rfl | ⟨rfl, ha⟩ | ⟨rfl, ha⟩⟩ := hrel
    · by_cases h : a = 0
      · have hn : (a != 0) = false := by simp [h]
        have hh := Lib.hid h
        clear h
        go_wp2_with fail
        exact ⟨⟨trivial, .inr (.inl ⟨rfl, hh⟩)⟩, by simp [intOf]⟩
      · have hn : (a != 0) = true := by simp [h]
        have hr : Hid (v = a) := Lib.hid (by rw [← hv.out, if_neg h])
        clear h
        go_wp2_with fail
        go_ret
        exact ⟨ret_int hr.out.symm, rfl⟩
    · have hr1 : Hid (v = b) := Lib.hid (by rw [← hv.out, if_pos ha.out])
      by_cases h : b = 0
      · have hn : (b != 0) = false := by simp [h]
        have hh := Lib.hid (And.intro ha.out h)
        clear h hr1
        go_wp2_with fail
        exact ⟨⟨trivial, .inr (.inr ⟨rfl, hh⟩)⟩, by simp [intOf]⟩
      · have hn : (b != 0) = true := by simp [h]
        clear h
        go_wp2_with fail
        go_ret
        exact ⟨ret_int hr1.out.symm, rfl⟩
    · have hr : Hid (v = 0) := Lib.hid (by rw [← hv.out, if_pos ha.out.1, ha.out.2])
      go_wp2_with fail
      go_ret
      exact ⟨ret_int hr.out.symm, rfl⟩
end Go.Proofs.YtmbopkcmbiommaaGreatDoor

/-
  post: an order is asked; slices.ContainsFunc over orders; walked.
-/
namespace Go.Proofs.YtmbopkcmbiommaaGreatDoor
open Go Go.RowKit

theorem order_info : (Tryz.prog.info? 65).map (·.size) = some 11 := by kernel_rfl
theorem Odr.cl_length (o : Odr) (v : Value) : (o.cl v).length = 11 := rfl
set_option maxRecDepth 100000 in
set_option maxHeartbeats 4000000 in
theorem ask_order (p PB : Nat) (s : WS) (x : Wld) (o : Odr) (A : Option Addr) (c : Nat) (W : World) (hp : Blk W p 102 #[.pointer (some ⟨PB, 0, none⟩)]) {pl : List Value} (hP : Blk W PB 107 (s.cl x ++ pl).toArray)
    (hA : Rd W W.heap.size 1 A o.ag.length (ints o.ag)) (hn : o.ag.length ≤ 1000000) (h1 : -9223372036854775808 ≤ o.crowd) (h2 : o.crowd < 9223372036854775808) :
    Calls Tryz.prog 66 #[.agg (o.cl (.slice A o.ag.length c)).toArray, .pointer (some ⟨p, 0, none⟩)] W (Ret (.bool (!(o.right x.offs x.people (x.base.length : Int)))) W) := by
  have BX := Blk.new W 65 (o.cl (.slice A o.ag.length c)).toArray _ rfl
  have hb := bAl (bRefl W) (.cells (o.cl (.slice A o.ag.length c)).toArray 65)
  have hp1 := hp.alloc (.cells (o.cl (.slice A o.ag.length c)).toArray 65)
  have hP1 := hP.alloc (.cells (o.cl (.slice A o.ag.length c)).toArray 65)
  have hA1 := (hA.below hb).more hb.size
  generalize hY : (o.cl (.slice A o.ag.length c)).toArray = Y at *
  have hYs : Y.size = 11 := by rw [← hY]; rfl
  go_enter Tryz.func66, Tryz.ntmps66
  go_upto_region 1 with fail
  have hbx := Lib.hid (fun w' (b : Below (W.alloc (.cells Y 65)).heap.size (W.alloc (.cells Y 65)) w') => bCall hb b)
  have KS : Hid (∀ w', Below (W.alloc (.cells Y 65)).heap.size (W.alloc (.cells Y 65)) w' → ((Instr.loadAt 65 (.pointer (some ⟨W.heap.size, 0, none⟩))).run Tryz.prog w' = .ok (.agg Y) w' ∧ w'.cell? ⟨p, 0, none⟩ = some (.pointer (some ⟨PB, 0, none⟩)) ∧ w'.cell? ⟨PB, 0, none⟩ = some (.int .i64 x.offs) ∧ w'.cell? ⟨PB, 6, none⟩ = some (.int .i64 x.people) ∧ w'.cell? ⟨PB, 2, none⟩ = some (.slice s.ab x.base.length s.cb))) := Lib.hid (fun w' b =>
    ⟨load_blk (BX.below b BX.lt) Tryz.underlying65 rfl (by rw [hYs]; exact order_info), (hp1.below b hp1.lt).cell 0, (hP1.below b hP1.lt).cell 0, (hP1.below b hP1.lt).cell 6, (hP1.below b hP1.lt).cell 2⟩)
  have q : Hid (∀ w', Below (W.alloc (.cells Y 65)).heap.size (W.alloc (.cells Y 65)) w' → Calls Tryz.prog 67 #[.agg Y, .int .i64 x.offs, .int .i64 x.people, .int .i64 (x.base.length : Nat)] w' (Ret (.bool (o.right x.offs x.people (x.base.length : Int))) w')) := Lib.hid (fun w' b => by
    rw [← hY]
    exact orders_right o A c x.offs x.people (x.base.length : Int) w' ((hA1.below b).more b.size) hn h1 h2)
  generalize o.right x.offs x.people (x.base.length : Int) = ok at *
  clear hb BX hp1 hP1 hA1 hY hYs hA hp hP h1 h2 hn
  generalize W.alloc (.cells Y 65) = w1 at *
  refine wp_region_schN (g := 0) KS [(0, 2), (1, 2), (2, 1), (3, 1), (4, 1), (5, 1), (6, 2), (7, 2), (8, 1), (9, 1), (10, 1), (11, 2), (12, 2), (13, 1), (14, 1), (15, 1), (16, 1), (17, 2), (18, 1), (19, 0), (20, 1), (21, 0)] ?_
  simp only [pickS, List.getElem?_cons_zero, List.getElem?_cons_succ]
  refine wpSchedN_r (v := ?vq1) (hv := ?hq1) ?_; case hq1 => (intro w hSw; (first | refine (exec_load rfl rfl hSw).trans ?_ | refine (exec_load rfl rfl hSw.1).trans ?_ | refine (exec_load rfl rfl hSw.2.1).trans ?_ | refine (exec_load rfl rfl hSw.2.2.1).trans ?_ | refine (exec_load rfl rfl hSw.2).trans ?_ | refine (exec_load rfl rfl hSw.2.2).trans ?_); with_reducible rfl)
  refine wpSchedN_r ?_
  refine wpSchedN_t ?_
  refine wpSchedN_t ?_
  refine wpSchedN_t ?_
  refine wpSchedN_t ?_
  refine wpSchedN_r ?_
  refine wpSchedN_r ?_
  refine wpSchedN_t ?_
  refine wpSchedN_t ?_
  refine wpSchedN_t ?_
  refine wpSchedN_r ?_
  refine wpSchedN_r ?_
  refine wpSchedN_t ?_
  refine wpSchedN_t ?_
  refine wpSchedN_t ?_
  refine wpSchedN_t ?_
  refine wpSchedN_r ?_
  refine wpSchedN_t ?_
  refine wpSchedN_force (fun K hK => ?_)
  go_simp; (first | (go_at_call 67; (with_reducible refine (q.out _ (bDr (bRefl _))).mono ?_); rintro e w6 ⟨rfl, b6⟩; have B6 : Below w1.heap.size w1 w6 := bCall (bDr (bRefl _)) b6) | skip)
  refine shut_go hK KS ?_
  clear hK K
  refine wpSchedN_t ?_
  refine wpSchedN_force (fun K hK => ?_)
  go_simp; (first | (go_at_call 67; (with_reducible refine (q.out _ (bDr (bRefl _))).mono ?_); rintro e w6 ⟨rfl, b6⟩; have B6 : Below w1.heap.size w1 w6 := bCall (bDr (bRefl _)) b6) | skip)
  refine shut_go hK KS ?_
  clear hK K
  refine anyN_end ?_
  refine NoPanic.normal ?_
  have hb := hbx.out _ B6
  clear KS hbx q b6 B6
  go_wp2_with fail
  go_ret
  exact ⟨rfl, hb⟩
/-- A slice of orders. -/
def OdrsAt (w : World) (B : Nat) (A : Option Addr) (l : List Odr) : Prop :=
  ∃ vs : List Value, vs.length = l.length ∧ Rd w B 11 A l.length (odrsCl l vs) ∧ ∀ (k : Nat) (y : Odr), l[k]? = some y → ∃ A c, vs[k]? = some (Value.slice A y.ag.length c) ∧ Rd w B 1 A y.ag.length (ints y.ag)
theorem OdrsAt.below {w w' : World} {B : Nat} {A : Option Addr} {l : List Odr} (h : OdrsAt w B A l) (b : Below B w w') : OdrsAt w' B A l := by
  obtain ⟨vs, l1, l2, l3⟩ := h
  exact ⟨vs, l1, l2.below b, fun k y hy => by obtain ⟨q, c, e, r⟩ := l3 k y hy; exact ⟨q, c, e, r.below b⟩⟩
theorem OdrsAt.more {w : World} {B B' : Nat} {A : Option Addr} {l : List Odr} (h : OdrsAt w B A l) (b : B ≤ B') : OdrsAt w B' A l := by
  obtain ⟨vs, l1, l2, l3⟩ := h
  exact ⟨vs, l1, l2.more b, fun k y hy => by obtain ⟨q, c, e, r⟩ := l3 k y hy; exact ⟨q, c, e, r.more b⟩⟩
theorem OdrsAt.at_ {w : World} {B k : Nat} {A : Option Addr} {l : List Odr} {y : Odr} (h : OdrsAt w B A l) (hy : l[k]? = some y) : ∃ b off A' c, A = some ⟨b, off, none⟩ ∧ b < B ∧ Rd w B 1 A' y.ag.length (ints y.ag) ∧ ∀ j, j < 11 → w.cell? ⟨b, off + k * 11 + j, none⟩ = (y.cl (.slice A' y.ag.length c))[j]? := by
  obtain ⟨vs, l1, l2, l3⟩ := h
  obtain ⟨A', c, hq, hr⟩ := l3 k y hy
  have hz : (l.zip vs)[k]? = some (y, .slice A' y.ag.length c) := by rw [List.getElem?_zip_eq_some]; exact ⟨hy, hq⟩
  obtain ⟨b, off, e, hb, hc⟩ := Cl_at (f := fun p : Odr × Value => p.1.cl p.2) (l := l.zip vs) (fun _ _ => rfl) l2 (List.getElem?_eq_some_iff.1 hy).1 hz
  exact ⟨b, off, A', c, e, hb, hr, hc⟩
def Odr.fine (o : Odr) : Prop := o.ag.length ≤ 1000000 ∧ -9223372036854775808 ≤ o.crowd ∧ o.crowd < 9223372036854775808
set_option maxRecDepth 100000 in
set_option maxHeartbeats 4000000 in
theorem index_odr (p PB : Nat) (s : WS) (x : Wld) (A : Option Addr) (c : Nat) (l : List Odr) (W : World) (hp : Blk W p 102 #[.pointer (some ⟨PB, 0, none⟩)]) {pl : List Value} (hP : Blk W PB 107 (s.cl x ++ pl).toArray)
    (hA : OdrsAt W W.heap.size A l) (hn : l.length ≤ 1000000) (hf : ∀ o ∈ l, o.fine) :
    Calls Tryz.prog 116 #[.slice A l.length c, .func (.func 66) #[] #[.pointer (some ⟨p, 0, none⟩)]] W (Ret (.int .i64 (firstI (fun o => !(o.right x.offs x.people (x.base.length : Int))) l)) W) := by
  have hen := Lib.hid (enters_of Tryz.func66 (by kernel_rfl) rfl)
  obtain ⟨pr, hpr⟩ : ∃ pr : Odr → Bool, (fun o : Odr => !(o.right x.offs x.people (x.base.length : Int))) = pr := ⟨_, rfl⟩
  have hq : Hid (∀ o ∈ l, ∀ A' c' w', Below W.heap.size W w' → Rd w' w'.heap.size 1 A' o.ag.length (ints o.ag) → Calls Tryz.prog 66 #[.agg (o.cl (.slice A' o.ag.length c')).toArray, .pointer (some ⟨p, 0, none⟩)] w' (Ret (.bool (pr o)) w')) := Lib.hid (fun o ho A' c' w' b r => by
    rw [← hpr]
    exact ask_order p PB s x o A' c' w' (hp.below b hp.lt) (hP.below b hP.lt) r (hf o ho).1 (hf o ho).2.1 (hf o ho).2.2)
  rw [hpr]
  clear hpr hp hP hf
  obtain ⟨v, hv⟩ : ∃ v, Hid (firstI pr l = v) := ⟨_, Lib.hid rfl⟩
  rw [hv.out]
  go_enter Tryz.func116, Tryz.ntmps116
  go_wp2_with fail
  go_loopw [8] (fun i wr => ∃ k : Nat, k ≤ l.length ∧ i = .int .i64 k ∧ Below W.heap.size W wr ∧ Hid (∀ y ∈ l.take k, pr y = false)) (fun i _ => l.length - (intOf i).toNat)
  case atStart => exact ⟨0, Nat.zero_le _, rfl, bRefl W, Lib.hid (by simp)⟩
  case round =>
    obtain ⟨k, hkn, rfl, hb, hp⟩ := hrel
    by_cases hlt : k < l.length
    · obtain ⟨o, ho⟩ : ∃ o, Hid (l[k]? = some o) := ⟨_, Lib.hid (List.getElem?_eq_getElem hlt)⟩
      obtain ⟨b, off, A', c', rfl, hbb, hr, hc⟩ := (hA.below hb).at_ ho.out
      have q := hq.out o (List.mem_of_getElem? ho.out) A' c' wr hb (hr.more hb.size)
      have he := hen.out
      have i0 : (0 : Int) ≤ (k : Int) := by omega
      have i1 : (k : Int) < (l.length : Int) := by omega
      have c0 := hc 0 (by omega)
      have c1 := hc 1 (by omega)
      have c2 := hc 2 (by omega)
      have c3 := hc 3 (by omega)
      have c4 := hc 4 (by omega)
      have c5 := hc 5 (by omega)
      have c6 := hc 6 (by omega)
      have c7 := hc 7 (by omega)
      have c8 := hc 8 (by omega)
      have c9 := hc 9 (by omega)
      have c10 := hc 10 (by omega)
      unfold Odr.cl at q c0 c1 c2 c3 c4 c5 c6 c7 c8 c9 c10
      simp only [List.getElem?_cons_zero, List.getElem?_cons_succ, Nat.add_zero] at c0 c1 c2 c3 c4 c5 c6 c7 c8 c9 c10
      clear hc hr
      cases hg : pr o
      · have hp' := Lib.hid (take_on hp.out ho.out hg)
        rw [hg] at q
        clear hg
        go_wp2_with fail
        (with_reducible refine q.mono ?_)
        rintro e w3 ⟨rfl, b3⟩
        replace hb := bCall hb b3
        clear q he c0 c1 c2 c3 c4 c5 c6 c7 c8 c9 c10
        go_wp2_with fail
        exact ⟨⟨k + 1, by omega, by go_num, hb, hp'⟩, by simp [intOf]; omega⟩
      · have hres := Lib.hid (hv.out.symm.trans (firstI_at hp.out ho.out hg))
        rw [hg] at q
        clear hg
        go_wp2_with fail
        (with_reducible refine q.mono ?_)
        rintro e w3 ⟨rfl, b3⟩
        replace hb := bCall hb b3
        clear q he c0 c1 c2 c3 c4 c5 c6 c7 c8 c9 c10
        go_wp2_with fail
        go_ret
        exact ⟨ret_int hres.out.symm, hb⟩
    · have hres : Hid (v = -1) := Lib.hid (hv.out.symm.trans (firstI_none (by have := hp.out; rwa [List.take_of_length_le (by omega)] at this)))
      clear hp
      go_wp2_with fail
      go_ret
      exact ⟨ret_int hres.out.symm, hb⟩
theorem contains_odr (p PB : Nat) (s : WS) (x : Wld) (A : Option Addr) (c : Nat) (l : List Odr) (W : World) (hp : Blk W p 102 #[.pointer (some ⟨PB, 0, none⟩)]) {pl : List Value} (hP : Blk W PB 107 (s.cl x ++ pl).toArray)
    (hA : OdrsAt W W.heap.size A l) (hn : l.length ≤ 1000000) (hf : ∀ o ∈ l, o.fine) :
    Calls Tryz.prog 68 #[.slice A l.length c, .func (.func 66) #[] #[.pointer (some ⟨p, 0, none⟩)]] W (Ret (.bool (l.any (fun o => !(o.right x.offs x.people (x.base.length : Int))))) W) := by
  have q := index_odr p PB s x A c l W hp hP hA hn hf
  have hg := firstI_any (p := fun o : Odr => !(o.right x.offs x.people (x.base.length : Int))) (l := l)
  generalize firstI (fun o : Odr => !(o.right x.offs x.people (x.base.length : Int))) l = i at *
  cases hall : (l.any (fun o : Odr => !(o.right x.offs x.people (x.base.length : Int))))
  all_goals
    rw [hall] at hg
    have hg' := Lib.hid hg
    have h1 := hg
    simp at h1
    clear hg hall
    go_enter Tryz.func68, Tryz.ntmps68
    go_wp2_with fail
    (with_reducible refine q.mono ?_)
    rintro e w1 ⟨rfl, b1⟩
    clear q
    go_wp2_with fail
    go_ret
    exact ⟨by first | rfl | exact ret_bool hg'.out, b1⟩
end Go.Proofs.YtmbopkcmbiommaaGreatDoor
