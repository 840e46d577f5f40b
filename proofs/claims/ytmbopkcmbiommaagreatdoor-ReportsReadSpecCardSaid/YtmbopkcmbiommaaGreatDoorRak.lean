/- A region that draws, by a schedule that ends in a few operations which may come up in several orders: all of these orders are walked. What is read ahead holds throughout. -/
import Derived.Test.YtmbopkcmbiommaaGreatDoorRaj
import Derived.Test.YtmbopkcmbiommaaGreatDoorRaf
import Derived.Test.YtmbopkcmbiommaaGreatDoorRai
set_option maxRecDepth 1000000
set_option maxHeartbeats 16000000
namespace Go.Proofs.YtmbopkcmbiommaaGreatDoor
open Go Go.RowKit
section
variable {P : Program} {ops : Array Oper} {Q : Exit → Act → World → Prop} {md : Region.Mode} {S : World → Prop}
def wpAnyN (P : Program) (md : Region.Mode) (ops : Array Oper) (Q : Exit → Act → World → Prop) (S : World → Prop) : Nat → Array Bool → Act → World → Prop
  | 0, listed, a, w => Region.ready md ops listed = [] ∧ Q .normal a w
  | g + 1, listed, a, w => (Region.ready md ops listed = [] → Q .normal a w) ∧
    ∀ i ∈ Region.ready md ops listed, wpOp P ops Q i (fun a' w' => S w' ∧ wpAnyN P md ops Q S g (listed.setIfInBounds i true) a' w') a w
theorem wpAny_of_N : ∀ (g : Nat) (listed : Array Bool) (a : Act) (w : World), wpAnyN P md ops Q S g listed a w → wpAny P md ops Q g listed a w
  | 0, _, _, _, h => h
  | g + 1, _, _, _, h => ⟨h.1, fun i hi => wpOp_mono (fun a' w' h' => wpAny_of_N g _ a' w' h'.2) (h.2 i hi)⟩
theorem wpAnyN_first {i : Nat} {oi : Oper} {v : Value} {T : World → Prop} (hi : ops[i]? = some oi) (hsel : ∀ (j : Nat) (o : Oper) cs b, ops[j]? = some o → o.op ≠ .select cs b)
    (hQ : ∀ c a w, Q (.panic c) (a.put oi.dst v) w → Q (.panic c) a w) (hT : ∀ w, S w → T w) :
    ∀ (g : Nat) (listed : Array Bool) (a : Act) (w : World), Clo md ops listed →
      (∀ j oj, ops[j]? = some oj → j ≠ i → listed.getD j true = false → (∀ e ∈ oj.after, Region.binds md e = true → e.on ≠ i) → oi.apart ops oj = true) →
      i ∈ Region.ready md ops listed → YieldsIf P ops T oi v a → S w →
      wpAnyN P md ops Q S g (listed.setIfInBounds i true) (a.put oi.dst v) w → wpAnyN P md ops Q S (g + 1) listed a w := by
  intro g
  induction g with
  | zero =>
    intro listed a w hc _ hr hy hS H
    refine ⟨fun h => (by rw [h] at hr; cases hr), fun j hj => ?_⟩
    by_cases hji : j = i
    · subst hji; exact hy.wpOp hi (hT _ hS) ⟨hS, H⟩
    · have := ready_mono hj hji
      rw [H.1] at this
      cases this
  | succ g ih =>
    intro listed a w hc hfree hr hy hS H
    have hun := (mem_ready.1 hr).1
    refine ⟨fun h => (by rw [h] at hr; cases hr), fun j hj => ?_⟩
    by_cases hji : j = i
    · subst hji; exact hy.wpOp hi (hT _ hS) ⟨hS, H⟩
    · have h1 := H.2 j (ready_mono hj hji)
      obtain ⟨hjun, oj, hoj, hall⟩ := mem_ready.1 hj
      have hnot : ∀ e ∈ oj.after, Region.binds md e = true → e.on ≠ i := fun e he hb heq => by
        have h1 := hall e he hb
        rw [heq, getD_both hun] at h1
        cases h1
      have h2 := wpOp_putIf hoj (hfree j oj hoj hji hjun hnot) (fun cs b => hsel i oi cs b hi) (fun cs b => hsel j oj cs b hoj) hQ hy h1
      have hfree' : ∀ k ok, ops[k]? = some ok → k ≠ i → (listed.setIfInBounds j true).getD k true = false →
          (∀ e ∈ ok.after, Region.binds md e = true → e.on ≠ i) → oi.apart ops ok = true := fun k ok hk hki hun hno => by
        refine hfree k ok hk hki ?_ hno
        by_cases hjk : j = k
        · subst hjk; exact hjun
        · rw [getD_set_ne true hjk] at hun; exact hun
      refine wpOp_mono (fun a' w' h3 => ?_) h2
      refine ⟨h3.2.1, ih (listed.setIfInBounds j true) a' w' (hc.set hj) hfree' (ready_mono hr (Ne.symm hji)) h3.1 h3.2.1 ?_⟩
      rw [Array.setIfInBounds_comm _ _ hji]
      exact h3.2.2
def schedOkN (md : Region.Mode) (ops : Array Oper) : List (Nat × Nat) → Array Bool → Bool
  | [], _ => true
  | (k, 0) :: s, listed => decide (Region.ready md ops listed = [k]) && schedOkN md ops s (listed.setIfInBounds k true)
  | (k, _) :: s, listed => (Region.ready md ops listed).contains k && Region.free md ops listed k && cloB md ops listed && schedOkN md ops s (listed.setIfInBounds k true)
def wpSchedN (P : Program) (md : Region.Mode) (ops : Array Oper) (Q : Exit → Act → World → Prop) (S : World → Prop) (g : Nat) (listed : Array Bool) : List (Nat × Oper) → Act → World → Prop
  | [], a, w => wpAnyN P md ops Q S g listed a w
  | (0, o) :: l, a, w => if Region.wanted o (yielded ops a.tmps) = true then Oper.wp P o a w (fun a' w' => S w' ∧ wpSchedN P md ops Q S g listed l a' w') Q else (S w ∧ wpSchedN P md ops Q S g listed l (a.put o.dst undef) w)
  | (1, o) :: l, a, w => ∃ v, YieldsIf P ops (fun _ => True) o v a ∧ wpSchedN P md ops Q S g listed l (a.put o.dst v) w
  | (_ + 2, o) :: l, a, w => ∃ v, YieldsIf P ops S o v a ∧ wpSchedN P md ops Q S g listed l (a.put o.dst v) w
def listedBy : List (Nat × Nat) → Array Bool → Array Bool
  | [], listed => listed
  | (k, _) :: s, listed => listedBy s (listed.setIfInBounds k true)
theorem schedN_any (hs : Region.noSelect ops = true) (hQ : ∀ d v c a w, Q (.panic c) (Act.put a d v) w → Q (.panic c) a w) (g : Nat) : ∀ (s : List (Nat × Nat)) (listed : Array Bool) (a : Act) (w : World),
    schedOkN md ops s listed = true → S w → wpSchedN P md ops Q S g (listedBy s listed) (pickS s ops.toList) a w → wpAnyN P md ops Q S (s.length + g) listed a w
  | [], listed, a, w, _, _, h => by rw [List.length_nil, Nat.zero_add]; exact h
  | (k, 0) :: s, listed, a, w, hB, hS, h => by
    simp only [schedOkN, Bool.and_eq_true, decide_eq_true_eq] at hB
    obtain ⟨o, ho⟩ := ready_some (md := md) (ops := ops) (listed := listed) (k := k) (by rw [hB.1]; simp)
    have ho' : ops.toList[k]? = some o := by simpa using ho
    simp only [pickS, ho', wpSchedN] at h
    rw [List.length_cons, Nat.add_right_comm]
    refine ⟨fun h0 => (by rw [hB.1] at h0; cases h0), fun j hj => ?_⟩
    rw [hB.1] at hj
    obtain rfl : j = k := by simpa using hj
    have hw : wpOp P ops Q j (fun a' w' => S w' ∧ wpSchedN P md ops Q S g (listedBy s (listed.setIfInBounds j true)) (pickS s ops.toList) a' w') a w := by
      unfold wpOp
      simp only [ho]
      split at h
      · rename_i c; rw [if_pos c]; exact .inl h
      · rename_i c; rw [if_neg c]; exact h
    exact wpOp_mono (fun a' w' h' => ⟨h'.1, schedN_any hs hQ g s _ a' w' hB.2 h'.1 h'.2⟩) hw
  | (k, 1) :: s, listed, a, w, hB, hS, h => by
    simp only [schedOkN, Bool.and_eq_true] at hB
    obtain ⟨⟨⟨h1, h2⟩, h3⟩, h5⟩ := hB
    obtain ⟨o, ho⟩ := ready_some (md := md) (ops := ops) (listed := listed) (k := k) (by simpa using h1)
    have ho' : ops.toList[k]? = some o := by simpa using ho
    simp only [pickS, ho', wpSchedN] at h
    obtain ⟨v, hv, h⟩ := h
    rw [List.length_cons, Nat.add_right_comm]
    exact wpAnyN_first (T := fun _ => True) ho (Region.noSelect_spec hs) (hQ _ _) (fun _ _ => trivial) (s.length + g) listed a w (clo_spec h3) (Region.free_spec ho h2) (by simpa using h1) hv hS (schedN_any hs hQ g s _ _ w h5 hS h)
  | (k, n + 2) :: s, listed, a, w, hB, hS, h => by
    simp only [schedOkN, Bool.and_eq_true] at hB
    obtain ⟨⟨⟨h1, h2⟩, h3⟩, h5⟩ := hB
    obtain ⟨o, ho⟩ := ready_some (md := md) (ops := ops) (listed := listed) (k := k) (by simpa using h1)
    have ho' : ops.toList[k]? = some o := by simpa using ho
    simp only [pickS, ho', wpSchedN] at h
    obtain ⟨v, hv, h⟩ := h
    rw [List.length_cons, Nat.add_right_comm]
    exact wpAnyN_first (T := S) ho (Region.noSelect_spec hs) (hQ _ _) (fun _ h => h) (s.length + g) listed a w (clo_spec h3) (Region.free_spec ho h2) (by simpa using h1) hv hS (schedN_any hs hQ g s _ _ w h5 hS h)
theorem wp_region_schN {w0 : World} {id g : Nat} {l : List Oper} {a : Act} {w : World} (KS : Hid (∀ w', Below w0.heap.size w0 w' → S w')) (s : List (Nat × Nat)) (h : wpSchedN P .any l.toArray (NoPanic Q) S g (listedBy s (Array.replicate l.toArray.size false)) (pickS s l) a w.drew)
    (hm : P.follows .mixedOrders = true := by kernel_rfl) (hB : (Region.noSelect l.toArray && (decide (s.length + g = l.toArray.size) && schedOkN .any l.toArray s (Array.replicate l.toArray.size false))) = true := by kernel_rfl)
    (hb : Below w0.heap.size w0 w.drew := by (repeat (first | with_reducible assumption | with_reducible exact bRefl _ | with_reducible refine bDr ?_ | with_reducible refine bAl ?_ _))) : (Code.region id l.toArray true).wp P Q a w := by
  simp only [Bool.and_eq_true, decide_eq_true_eq] at hB
  obtain ⟨h1, h2, h3⟩ := hB
  refine wp_region_noPanic (wp_region_any hm ?_)
  have := wpAny_of_N _ _ _ _ (schedN_any (md := .any) (Q := NoPanic Q) (ops := l.toArray) h1 (fun _ _ _ _ _ h => h) g s _ a w.drew h3 (KS.out _ hb) (by simpa using h))
  rw [h2] at this
  exact this
variable {o : Oper} {l : List (Nat × Oper)} {a a' : Act} {w w0 : World} {v : Value} {g : Nat} {listed : Array Bool}
theorem wpSchedN_t (h : wpSchedN P md ops Q S g listed l a' w) (hw : Region.wanted o (yielded ops a.tmps) = true := by rfl)
    (hv : ∀ w, (execOp a.eval o).run P w = .ok (.value v) w := by intro w; go_simp; try with_reducible rfl)
    (ht : a.put o.dst v = a' := by (try simp only [Act.put, List.setIfInBounds_toArray, List.set_cons_zero, List.set_cons_succ]) <;> with_reducible rfl) : wpSchedN P md ops Q S g listed ((1, o) :: l) a w := by
  subst ht
  exact ⟨v, .inl ⟨hw, fun w _ => hv w⟩, h⟩
theorem wpSchedN_r (h : wpSchedN P md ops Q S g listed l a' w) (hw : Region.wanted o (yielded ops a.tmps) = true := by rfl)
    (hv : ∀ w, S w → (execOp a.eval o).run P w = .ok (.value v) w := by intro w hSw; go_simp; try with_reducible rfl)
    (ht : a.put o.dst v = a' := by (try simp only [Act.put, List.setIfInBounds_toArray, List.set_cons_zero, List.set_cons_succ]) <;> with_reducible rfl) : wpSchedN P md ops Q S g listed ((2, o) :: l) a w := by
  subst ht
  exact ⟨v, .inl ⟨hw, hv⟩, h⟩
theorem wpSchedN_force (h : ∀ K' : Act → World → Prop, Shut (∀ a w, S w → (S w → wpSchedN P md ops Q S g listed l a w) → K' a w) → if Region.wanted o (yielded ops a.tmps) = true then Oper.wp P o a w K' Q else K' (a.put o.dst undef) w) :
    wpSchedN P md ops Q S g listed ((0, o) :: l) a w := h _ (fun _ _ hS hW => ⟨hS, hW hS⟩)
def Comes1 (P : Program) (md : Region.Mode) (ops : Array Oper) (Q : Exit → Act → World → Prop) (S : World → Prop) (g : Nat) (listed : Array Bool) (i : Nat) (a : Act) (w : World) : Prop :=
  ∃ o, ops[i]? = some o ∧ ∀ K' : Act → World → Prop, Shut (∀ a w, S w → (S w → wpAnyN P md ops Q S g (listed.setIfInBounds i true) a w) → K' a w) → if Region.wanted o (yielded ops a.tmps) = true then Oper.wp P o a w K' Q else K' (a.put o.dst undef) w
theorem anyN_mem {i : Nat} (h : Comes1 P md ops Q S g listed i a w) : wpOp P ops Q i (fun a' w' => S w' ∧ wpAnyN P md ops Q S g (listed.setIfInBounds i true) a' w') a w := by
  obtain ⟨o, ho, h⟩ := h
  exact wpOp_step ho (fun K' hK => h K' (fun a w hS hW => hK a w ⟨hS, hW hS⟩))
theorem anyN_one {i : Nat} (h : Comes1 P md ops Q S g listed i a w) (hr : Region.ready md ops listed = [i] := by kernel_rfl) : wpAnyN P md ops Q S (g + 1) listed a w :=
  ⟨fun h0 => (by rw [hr] at h0; cases h0), fun j hj => by
    rw [hr] at hj
    obtain rfl : j = i := by simpa using hj
    exact anyN_mem h⟩
theorem anyN_end (h : Q .normal a w) (hr : Region.ready md ops listed = [] := by kernel_rfl) : wpAnyN P md ops Q S 0 listed a w := ⟨hr, h⟩
theorem step_storeG {K : Act → World → Prop} {E : Prop} {w' : World} (hgd : Region.wanted o (yielded ops a.tmps) = true) {ty : TypeId} {x y : Operand} (ho : o.op = .store ty x y) {q v : Value} (hx : a.eval x = q) (hy : a.eval y = v)
    (hl : (Instr.storeAt ty q v).run P w = .ok () w') (h : K (a.put o.dst undef) w') : if Region.wanted o (yielded ops a.tmps) = true then Oper.wp P o a w K Q else E := by
  rw [if_pos hgd]
  have e : (execOp a.eval o).run P w = .ok .skip w' := by
    unfold execOp
    rw [ho]
    simp only [Sem.run_bind, hx, hy, hl, Result.andThen_ok, Sem.run_pure]
  unfold Oper.wp
  rw [e]
  exact h
end
theorem blw_wrap {x : Int} (h1 : -9223372036854775808 ≤ x) (h2 : x < 9223372036854775808) : blw (IntKind.i64.wrap (x - 1)) 64 = blw (x - 1) 64 := by
  unfold blw
  rcases Int.lt_or_le (-9223372036854775808) x with h | h
  · rw [show IntKind.i64.wrap (x - 1) = x - 1 by rw [IntKind.wrap_i64]; omega]
  · obtain rfl : x = -9223372036854775808 := by omega
    decide
theorem right_eq (o : Odr) (n people classes : Int) (h1 : -9223372036854775808 ≤ o.crowd) (h2 : o.crowd < 9223372036854775808) : o.right n people classes = [blw o.from_ n, blw o.dest n, blw o.person people, blw o.cls classes, blw o.after o.by_, blw o.by_ 2097152, blw (IntKind.i64.wrap (o.crowd - 1)) 64, blw o.pay 1099511627777, blw o.els 3, decide (o.from_ ≠ o.dest), agB n (-1) o.ag].all id := by
  unfold Odr.right
  simp only [List.all_cons, List.all_nil, id, Bool.and_true]
  rw [blw_wrap h1 h2]
theorem exec_mf {P : Program} {ev : Operand → Value} {o : Oper} {fn : Fn} {x y : Array Operand} {x' y' : Array Value} {w : World} (ho : o.op = .makeFunc fn x y) (hx : x.map ev = x') (hy : y.map ev = y') : (execOp ev o).run P w = .ok (.value (.func fn x' y')) w := by
  unfold execOp
  rw [ho]
  subst hx hy
  rfl
def fnsCl (l : List (FuncId × Array Value × Bool)) : List Value := l.map (fun p => Value.func (.func p.1) #[] p.2.1)
theorem orders_right (o : Odr) (A : Option Addr) (c : Nat) (n people classes : Int) (W : World) (hA : Rd W W.heap.size 1 A o.ag.length (ints o.ag)) (hn : o.ag.length ≤ 1000000) (h1 : -9223372036854775808 ≤ o.crowd) (h2 : o.crowd < 9223372036854775808) :
    Calls Tryz.prog 67 #[.agg (o.cl (.slice A o.ag.length c)).toArray, .int .i64 n, .int .i64 people, .int .i64 classes] W (Ret (.bool (o.right n people classes)) W) := by
  have hmf : ∀ (fn : Fn) (first cap : Array Value) (w : World), (Instr.makeFunc fn first cap).run Tryz.prog w = .ok (.func fn first cap) w := fun _ _ _ _ => rfl
  obtain ⟨v, hv⟩ : ∃ v, Hid ([blw o.from_ n, blw o.dest n, blw o.person people, blw o.cls classes, blw o.after o.by_, blw o.by_ 2097152, blw (IntKind.i64.wrap (o.crowd - 1)) 64, blw o.pay 1099511627777, blw o.els 3, decide (o.from_ ≠ o.dest), agB n (-1) o.ag].all id = v) := ⟨_, Lib.hid rfl⟩
  rw [right_eq o n people classes h1 h2, hv.out]
  have BO := (Blk.new W 65 (o.cl (.slice A o.ag.length c)).toArray _ rfl).alloc (.cells #[.int .i64 n] 3)
  have BN := Blk.new (W.alloc (.cells (o.cl (.slice A o.ag.length c)).toArray 65)) 3 #[.int .i64 n] _ rfl
  have hb := bAl (bAl (bRefl W) (.cells (o.cl (.slice A o.ag.length c)).toArray 65)) (.cells #[.int .i64 n] 3)
  have hA1 := (hA.below hb).more hb.size
  go_enter Tryz.func67, Tryz.ntmps67
  go_upto_region 2 with fail
  generalize hF : (W.alloc (.cells (o.cl (.slice A o.ag.length c)).toArray 65)).heap.size = F at *
  have hF' : W.heap.size + 1 = F := by rw [← hF]; simp
  rw [hF']
  clear hF
  have hbx : Hid (∀ w', Below (((W.alloc (.cells (o.cl (.slice A o.ag.length c)).toArray 65)).alloc (.cells #[.int .i64 n] 3))).heap.size ((W.alloc (.cells (o.cl (.slice A o.ag.length c)).toArray 65)).alloc (.cells #[.int .i64 n] 3)) w' → Below W.heap.size W w') := Lib.hid (fun w' b => bCall hb b)
  generalize hO : W.heap.size = O at *
  generalize hw0 : (W.alloc (.cells (o.cl (.slice A o.ag.length c)).toArray 65)).alloc (.cells #[.int .i64 n] 3) = w0 at *
  clear hw0
  have KS := Lib.hid (fun w' (b : Below w0.heap.size w0 w') => show (w'.cell? ⟨O, 0, none⟩ = some (.int .i64 o.from_) ∧ w'.cell? ⟨O, 1, none⟩ = some (.int .i64 o.person) ∧ w'.cell? ⟨O, 2, none⟩ = some (.int .i64 o.dest) ∧ w'.cell? ⟨O, 3, none⟩ = some (.int .i64 o.cls) ∧ w'.cell? ⟨O, 4, none⟩ = some (.int .i64 o.after) ∧ w'.cell? ⟨O, 5, none⟩ = some (.int .i64 o.by_) ∧ w'.cell? ⟨O, 6, none⟩ = some (.int .i64 o.crowd) ∧ w'.cell? ⟨O, 7, none⟩ = some (.int .i64 o.pay) ∧ w'.cell? ⟨O, 10, none⟩ = some (.int .i64 o.els) ∧ w'.cell? ⟨F, 0, none⟩ = some (.int .i64 n)) from ⟨(BO.below b BO.lt).cell 0, (BO.below b BO.lt).cell 1, (BO.below b BO.lt).cell 2, (BO.below b BO.lt).cell 3, (BO.below b BO.lt).cell 4, (BO.below b BO.lt).cell 5, (BO.below b BO.lt).cell 6, (BO.below b BO.lt).cell 7, (BO.below b BO.lt).cell 10, (BN.below b BN.lt).cell 0⟩)
  have KB := Lib.hid (And.intro BO (And.intro BN hA1))
  clear BO BN hA1 hA
  refine wp_region_schN (g := 0) KS [(0, 1), (1, 1), (2, 2), (3, 2), (5, 1), (6, 1), (7, 2), (8, 2), (10, 1), (11, 1), (12, 2), (13, 1), (15, 1), (16, 1), (17, 2), (18, 1), (20, 1), (21, 1), (22, 2), (23, 1), (24, 2), (26, 1), (27, 1), (28, 2), (30, 1), (31, 1), (32, 2), (33, 1), (35, 1), (36, 1), (37, 2), (39, 1), (40, 1), (41, 2), (43, 1), (44, 1), (47, 1), (4, 0), (9, 0), (14, 0), (19, 0), (25, 0), (29, 0), (34, 0), (38, 0), (42, 0), (45, 0), (46, 1)] ?_
  simp only [pickS, List.getElem?_cons_zero, List.getElem?_cons_succ]
  refine wpSchedN_t ?_
  refine wpSchedN_t ?_
  refine wpSchedN_r ?_
  refine wpSchedN_r ?_
  refine wpSchedN_t ?_
  refine wpSchedN_t ?_
  refine wpSchedN_r ?_
  refine wpSchedN_r ?_
  refine wpSchedN_t ?_
  refine wpSchedN_t ?_
  refine wpSchedN_r ?_
  refine wpSchedN_t ?_
  refine wpSchedN_t ?_
  refine wpSchedN_t ?_
  refine wpSchedN_r ?_
  refine wpSchedN_t ?_
  refine wpSchedN_t ?_
  refine wpSchedN_t ?_
  refine wpSchedN_r ?_
  refine wpSchedN_t ?_
  refine wpSchedN_r ?_
  refine wpSchedN_t ?_
  refine wpSchedN_t ?_
  refine wpSchedN_r ?_
  refine wpSchedN_t ?_
  refine wpSchedN_t ?_
  refine wpSchedN_r ?_
  refine wpSchedN_t ?_
  refine wpSchedN_t ?_
  refine wpSchedN_t ?_
  refine wpSchedN_r ?_
  refine wpSchedN_t ?_
  refine wpSchedN_t ?_
  refine wpSchedN_r ?_
  refine wpSchedN_t ?_ (hv := fun w => exec_mf (by rfl) (by rfl) (by rfl))
  refine wpSchedN_t ?_ (hv := fun w => exec_mf (by rfl) (by rfl) (by rfl))
  refine wpSchedN_t ?_
  refine wpSchedN_force (fun K hK => ?_)
  go_simp; (first | (go_at_call 112; (with_reducible refine (o_mk o.from_ n _).mono ?_); rintro e w1 ⟨a1, rfl, b1, k1⟩; have B1 : Below w0.heap.size w0 w1 := bCall (by repeat (first | exact bRefl _ | refine bAl ?_ _ | refine bDr ?_)) b1) | (go_at_call 112; (with_reducible refine (o_mk o.dest n _).mono ?_); rintro e w2 ⟨a2, rfl, b2, k2⟩; have B2 : Below w0.heap.size w0 w2 := bCall (by repeat (first | exact B1 | refine bAl ?_ _ | refine bDr ?_)) b2) | (go_at_call 112; (with_reducible refine (o_mk o.person people _).mono ?_); rintro e w3 ⟨a3, rfl, b3, k3⟩; have B3 : Below w0.heap.size w0 w3 := bCall (by repeat (first | exact B2 | refine bAl ?_ _ | refine bDr ?_)) b3) | (go_at_call 112; (with_reducible refine (o_mk o.cls classes _).mono ?_); rintro e w4 ⟨a4, rfl, b4, k4⟩; have B4 : Below w0.heap.size w0 w4 := bCall (by repeat (first | exact B3 | refine bAl ?_ _ | refine bDr ?_)) b4) | (go_at_call 112; (with_reducible refine (o_mk o.after o.by_ _).mono ?_); rintro e w5 ⟨a5, rfl, b5, k5⟩; have B5 : Below w0.heap.size w0 w5 := bCall (by repeat (first | exact B4 | refine bAl ?_ _ | refine bDr ?_)) b5) | (go_at_call 112; (with_reducible refine (o_mk o.by_ 2097152 _).mono ?_); rintro e w6 ⟨a6, rfl, b6, k6⟩; have B6 : Below w0.heap.size w0 w6 := bCall (by repeat (first | exact B5 | refine bAl ?_ _ | refine bDr ?_)) b6) | (go_at_call 112; (with_reducible refine (o_mk (IntKind.i64.wrap (o.crowd - 1)) 64 _).mono ?_); rintro e w7 ⟨a7, rfl, b7, k7⟩; have B7 : Below w0.heap.size w0 w7 := bCall (by repeat (first | exact B6 | refine bAl ?_ _ | refine bDr ?_)) b7) | (go_at_call 112; (with_reducible refine (o_mk o.pay 1099511627777 _).mono ?_); rintro e w8 ⟨a8, rfl, b8, k8⟩; have B8 : Below w0.heap.size w0 w8 := bCall (by repeat (first | exact B7 | refine bAl ?_ _ | refine bDr ?_)) b8) | (go_at_call 112; (with_reducible refine (o_mk o.els 3 _).mono ?_); rintro e w9 ⟨a9, rfl, b9, k9⟩; have B9 : Below w0.heap.size w0 w9 := bCall (by repeat (first | exact B8 | refine bAl ?_ _ | refine bDr ?_)) b9) | skip)
  refine shut_go hK KS ?_
  clear hK K
  refine wpSchedN_force (fun K hK => ?_)
  go_simp; (first | (go_at_call 112; (with_reducible refine (o_mk o.from_ n _).mono ?_); rintro e w1 ⟨a1, rfl, b1, k1⟩; have B1 : Below w0.heap.size w0 w1 := bCall (by repeat (first | exact bRefl _ | refine bAl ?_ _ | refine bDr ?_)) b1) | (go_at_call 112; (with_reducible refine (o_mk o.dest n _).mono ?_); rintro e w2 ⟨a2, rfl, b2, k2⟩; have B2 : Below w0.heap.size w0 w2 := bCall (by repeat (first | exact B1 | refine bAl ?_ _ | refine bDr ?_)) b2) | (go_at_call 112; (with_reducible refine (o_mk o.person people _).mono ?_); rintro e w3 ⟨a3, rfl, b3, k3⟩; have B3 : Below w0.heap.size w0 w3 := bCall (by repeat (first | exact B2 | refine bAl ?_ _ | refine bDr ?_)) b3) | (go_at_call 112; (with_reducible refine (o_mk o.cls classes _).mono ?_); rintro e w4 ⟨a4, rfl, b4, k4⟩; have B4 : Below w0.heap.size w0 w4 := bCall (by repeat (first | exact B3 | refine bAl ?_ _ | refine bDr ?_)) b4) | (go_at_call 112; (with_reducible refine (o_mk o.after o.by_ _).mono ?_); rintro e w5 ⟨a5, rfl, b5, k5⟩; have B5 : Below w0.heap.size w0 w5 := bCall (by repeat (first | exact B4 | refine bAl ?_ _ | refine bDr ?_)) b5) | (go_at_call 112; (with_reducible refine (o_mk o.by_ 2097152 _).mono ?_); rintro e w6 ⟨a6, rfl, b6, k6⟩; have B6 : Below w0.heap.size w0 w6 := bCall (by repeat (first | exact B5 | refine bAl ?_ _ | refine bDr ?_)) b6) | (go_at_call 112; (with_reducible refine (o_mk (IntKind.i64.wrap (o.crowd - 1)) 64 _).mono ?_); rintro e w7 ⟨a7, rfl, b7, k7⟩; have B7 : Below w0.heap.size w0 w7 := bCall (by repeat (first | exact B6 | refine bAl ?_ _ | refine bDr ?_)) b7) | (go_at_call 112; (with_reducible refine (o_mk o.pay 1099511627777 _).mono ?_); rintro e w8 ⟨a8, rfl, b8, k8⟩; have B8 : Below w0.heap.size w0 w8 := bCall (by repeat (first | exact B7 | refine bAl ?_ _ | refine bDr ?_)) b8) | (go_at_call 112; (with_reducible refine (o_mk o.els 3 _).mono ?_); rintro e w9 ⟨a9, rfl, b9, k9⟩; have B9 : Below w0.heap.size w0 w9 := bCall (by repeat (first | exact B8 | refine bAl ?_ _ | refine bDr ?_)) b9) | skip)
  refine shut_go hK KS ?_
  clear hK K
  refine wpSchedN_force (fun K hK => ?_)
  go_simp; (first | (go_at_call 112; (with_reducible refine (o_mk o.from_ n _).mono ?_); rintro e w1 ⟨a1, rfl, b1, k1⟩; have B1 : Below w0.heap.size w0 w1 := bCall (by repeat (first | exact bRefl _ | refine bAl ?_ _ | refine bDr ?_)) b1) | (go_at_call 112; (with_reducible refine (o_mk o.dest n _).mono ?_); rintro e w2 ⟨a2, rfl, b2, k2⟩; have B2 : Below w0.heap.size w0 w2 := bCall (by repeat (first | exact B1 | refine bAl ?_ _ | refine bDr ?_)) b2) | (go_at_call 112; (with_reducible refine (o_mk o.person people _).mono ?_); rintro e w3 ⟨a3, rfl, b3, k3⟩; have B3 : Below w0.heap.size w0 w3 := bCall (by repeat (first | exact B2 | refine bAl ?_ _ | refine bDr ?_)) b3) | (go_at_call 112; (with_reducible refine (o_mk o.cls classes _).mono ?_); rintro e w4 ⟨a4, rfl, b4, k4⟩; have B4 : Below w0.heap.size w0 w4 := bCall (by repeat (first | exact B3 | refine bAl ?_ _ | refine bDr ?_)) b4) | (go_at_call 112; (with_reducible refine (o_mk o.after o.by_ _).mono ?_); rintro e w5 ⟨a5, rfl, b5, k5⟩; have B5 : Below w0.heap.size w0 w5 := bCall (by repeat (first | exact B4 | refine bAl ?_ _ | refine bDr ?_)) b5) | (go_at_call 112; (with_reducible refine (o_mk o.by_ 2097152 _).mono ?_); rintro e w6 ⟨a6, rfl, b6, k6⟩; have B6 : Below w0.heap.size w0 w6 := bCall (by repeat (first | exact B5 | refine bAl ?_ _ | refine bDr ?_)) b6) | (go_at_call 112; (with_reducible refine (o_mk (IntKind.i64.wrap (o.crowd - 1)) 64 _).mono ?_); rintro e w7 ⟨a7, rfl, b7, k7⟩; have B7 : Below w0.heap.size w0 w7 := bCall (by repeat (first | exact B6 | refine bAl ?_ _ | refine bDr ?_)) b7) | (go_at_call 112; (with_reducible refine (o_mk o.pay 1099511627777 _).mono ?_); rintro e w8 ⟨a8, rfl, b8, k8⟩; have B8 : Below w0.heap.size w0 w8 := bCall (by repeat (first | exact B7 | refine bAl ?_ _ | refine bDr ?_)) b8) | (go_at_call 112; (with_reducible refine (o_mk o.els 3 _).mono ?_); rintro e w9 ⟨a9, rfl, b9, k9⟩; have B9 : Below w0.heap.size w0 w9 := bCall (by repeat (first | exact B8 | refine bAl ?_ _ | refine bDr ?_)) b9) | skip)
  refine shut_go hK KS ?_
  clear hK K
  refine wpSchedN_force (fun K hK => ?_)
  go_simp; (first | (go_at_call 112; (with_reducible refine (o_mk o.from_ n _).mono ?_); rintro e w1 ⟨a1, rfl, b1, k1⟩; have B1 : Below w0.heap.size w0 w1 := bCall (by repeat (first | exact bRefl _ | refine bAl ?_ _ | refine bDr ?_)) b1) | (go_at_call 112; (with_reducible refine (o_mk o.dest n _).mono ?_); rintro e w2 ⟨a2, rfl, b2, k2⟩; have B2 : Below w0.heap.size w0 w2 := bCall (by repeat (first | exact B1 | refine bAl ?_ _ | refine bDr ?_)) b2) | (go_at_call 112; (with_reducible refine (o_mk o.person people _).mono ?_); rintro e w3 ⟨a3, rfl, b3, k3⟩; have B3 : Below w0.heap.size w0 w3 := bCall (by repeat (first | exact B2 | refine bAl ?_ _ | refine bDr ?_)) b3) | (go_at_call 112; (with_reducible refine (o_mk o.cls classes _).mono ?_); rintro e w4 ⟨a4, rfl, b4, k4⟩; have B4 : Below w0.heap.size w0 w4 := bCall (by repeat (first | exact B3 | refine bAl ?_ _ | refine bDr ?_)) b4) | (go_at_call 112; (with_reducible refine (o_mk o.after o.by_ _).mono ?_); rintro e w5 ⟨a5, rfl, b5, k5⟩; have B5 : Below w0.heap.size w0 w5 := bCall (by repeat (first | exact B4 | refine bAl ?_ _ | refine bDr ?_)) b5) | (go_at_call 112; (with_reducible refine (o_mk o.by_ 2097152 _).mono ?_); rintro e w6 ⟨a6, rfl, b6, k6⟩; have B6 : Below w0.heap.size w0 w6 := bCall (by repeat (first | exact B5 | refine bAl ?_ _ | refine bDr ?_)) b6) | (go_at_call 112; (with_reducible refine (o_mk (IntKind.i64.wrap (o.crowd - 1)) 64 _).mono ?_); rintro e w7 ⟨a7, rfl, b7, k7⟩; have B7 : Below w0.heap.size w0 w7 := bCall (by repeat (first | exact B6 | refine bAl ?_ _ | refine bDr ?_)) b7) | (go_at_call 112; (with_reducible refine (o_mk o.pay 1099511627777 _).mono ?_); rintro e w8 ⟨a8, rfl, b8, k8⟩; have B8 : Below w0.heap.size w0 w8 := bCall (by repeat (first | exact B7 | refine bAl ?_ _ | refine bDr ?_)) b8) | (go_at_call 112; (with_reducible refine (o_mk o.els 3 _).mono ?_); rintro e w9 ⟨a9, rfl, b9, k9⟩; have B9 : Below w0.heap.size w0 w9 := bCall (by repeat (first | exact B8 | refine bAl ?_ _ | refine bDr ?_)) b9) | skip)
  refine shut_go hK KS ?_
  clear hK K
  refine wpSchedN_force (fun K hK => ?_)
  go_simp; (first | (go_at_call 112; (with_reducible refine (o_mk o.from_ n _).mono ?_); rintro e w1 ⟨a1, rfl, b1, k1⟩; have B1 : Below w0.heap.size w0 w1 := bCall (by repeat (first | exact bRefl _ | refine bAl ?_ _ | refine bDr ?_)) b1) | (go_at_call 112; (with_reducible refine (o_mk o.dest n _).mono ?_); rintro e w2 ⟨a2, rfl, b2, k2⟩; have B2 : Below w0.heap.size w0 w2 := bCall (by repeat (first | exact B1 | refine bAl ?_ _ | refine bDr ?_)) b2) | (go_at_call 112; (with_reducible refine (o_mk o.person people _).mono ?_); rintro e w3 ⟨a3, rfl, b3, k3⟩; have B3 : Below w0.heap.size w0 w3 := bCall (by repeat (first | exact B2 | refine bAl ?_ _ | refine bDr ?_)) b3) | (go_at_call 112; (with_reducible refine (o_mk o.cls classes _).mono ?_); rintro e w4 ⟨a4, rfl, b4, k4⟩; have B4 : Below w0.heap.size w0 w4 := bCall (by repeat (first | exact B3 | refine bAl ?_ _ | refine bDr ?_)) b4) | (go_at_call 112; (with_reducible refine (o_mk o.after o.by_ _).mono ?_); rintro e w5 ⟨a5, rfl, b5, k5⟩; have B5 : Below w0.heap.size w0 w5 := bCall (by repeat (first | exact B4 | refine bAl ?_ _ | refine bDr ?_)) b5) | (go_at_call 112; (with_reducible refine (o_mk o.by_ 2097152 _).mono ?_); rintro e w6 ⟨a6, rfl, b6, k6⟩; have B6 : Below w0.heap.size w0 w6 := bCall (by repeat (first | exact B5 | refine bAl ?_ _ | refine bDr ?_)) b6) | (go_at_call 112; (with_reducible refine (o_mk (IntKind.i64.wrap (o.crowd - 1)) 64 _).mono ?_); rintro e w7 ⟨a7, rfl, b7, k7⟩; have B7 : Below w0.heap.size w0 w7 := bCall (by repeat (first | exact B6 | refine bAl ?_ _ | refine bDr ?_)) b7) | (go_at_call 112; (with_reducible refine (o_mk o.pay 1099511627777 _).mono ?_); rintro e w8 ⟨a8, rfl, b8, k8⟩; have B8 : Below w0.heap.size w0 w8 := bCall (by repeat (first | exact B7 | refine bAl ?_ _ | refine bDr ?_)) b8) | (go_at_call 112; (with_reducible refine (o_mk o.els 3 _).mono ?_); rintro e w9 ⟨a9, rfl, b9, k9⟩; have B9 : Below w0.heap.size w0 w9 := bCall (by repeat (first | exact B8 | refine bAl ?_ _ | refine bDr ?_)) b9) | skip)
  refine shut_go hK KS ?_
  clear hK K
  refine wpSchedN_force (fun K hK => ?_)
  go_simp; (first | (go_at_call 112; (with_reducible refine (o_mk o.from_ n _).mono ?_); rintro e w1 ⟨a1, rfl, b1, k1⟩; have B1 : Below w0.heap.size w0 w1 := bCall (by repeat (first | exact bRefl _ | refine bAl ?_ _ | refine bDr ?_)) b1) | (go_at_call 112; (with_reducible refine (o_mk o.dest n _).mono ?_); rintro e w2 ⟨a2, rfl, b2, k2⟩; have B2 : Below w0.heap.size w0 w2 := bCall (by repeat (first | exact B1 | refine bAl ?_ _ | refine bDr ?_)) b2) | (go_at_call 112; (with_reducible refine (o_mk o.person people _).mono ?_); rintro e w3 ⟨a3, rfl, b3, k3⟩; have B3 : Below w0.heap.size w0 w3 := bCall (by repeat (first | exact B2 | refine bAl ?_ _ | refine bDr ?_)) b3) | (go_at_call 112; (with_reducible refine (o_mk o.cls classes _).mono ?_); rintro e w4 ⟨a4, rfl, b4, k4⟩; have B4 : Below w0.heap.size w0 w4 := bCall (by repeat (first | exact B3 | refine bAl ?_ _ | refine bDr ?_)) b4) | (go_at_call 112; (with_reducible refine (o_mk o.after o.by_ _).mono ?_); rintro e w5 ⟨a5, rfl, b5, k5⟩; have B5 : Below w0.heap.size w0 w5 := bCall (by repeat (first | exact B4 | refine bAl ?_ _ | refine bDr ?_)) b5) | (go_at_call 112; (with_reducible refine (o_mk o.by_ 2097152 _).mono ?_); rintro e w6 ⟨a6, rfl, b6, k6⟩; have B6 : Below w0.heap.size w0 w6 := bCall (by repeat (first | exact B5 | refine bAl ?_ _ | refine bDr ?_)) b6) | (go_at_call 112; (with_reducible refine (o_mk (IntKind.i64.wrap (o.crowd - 1)) 64 _).mono ?_); rintro e w7 ⟨a7, rfl, b7, k7⟩; have B7 : Below w0.heap.size w0 w7 := bCall (by repeat (first | exact B6 | refine bAl ?_ _ | refine bDr ?_)) b7) | (go_at_call 112; (with_reducible refine (o_mk o.pay 1099511627777 _).mono ?_); rintro e w8 ⟨a8, rfl, b8, k8⟩; have B8 : Below w0.heap.size w0 w8 := bCall (by repeat (first | exact B7 | refine bAl ?_ _ | refine bDr ?_)) b8) | (go_at_call 112; (with_reducible refine (o_mk o.els 3 _).mono ?_); rintro e w9 ⟨a9, rfl, b9, k9⟩; have B9 : Below w0.heap.size w0 w9 := bCall (by repeat (first | exact B8 | refine bAl ?_ _ | refine bDr ?_)) b9) | skip)
  refine shut_go hK KS ?_
  clear hK K
  refine wpSchedN_force (fun K hK => ?_)
  go_simp; (first | (go_at_call 112; (with_reducible refine (o_mk o.from_ n _).mono ?_); rintro e w1 ⟨a1, rfl, b1, k1⟩; have B1 : Below w0.heap.size w0 w1 := bCall (by repeat (first | exact bRefl _ | refine bAl ?_ _ | refine bDr ?_)) b1) | (go_at_call 112; (with_reducible refine (o_mk o.dest n _).mono ?_); rintro e w2 ⟨a2, rfl, b2, k2⟩; have B2 : Below w0.heap.size w0 w2 := bCall (by repeat (first | exact B1 | refine bAl ?_ _ | refine bDr ?_)) b2) | (go_at_call 112; (with_reducible refine (o_mk o.person people _).mono ?_); rintro e w3 ⟨a3, rfl, b3, k3⟩; have B3 : Below w0.heap.size w0 w3 := bCall (by repeat (first | exact B2 | refine bAl ?_ _ | refine bDr ?_)) b3) | (go_at_call 112; (with_reducible refine (o_mk o.cls classes _).mono ?_); rintro e w4 ⟨a4, rfl, b4, k4⟩; have B4 : Below w0.heap.size w0 w4 := bCall (by repeat (first | exact B3 | refine bAl ?_ _ | refine bDr ?_)) b4) | (go_at_call 112; (with_reducible refine (o_mk o.after o.by_ _).mono ?_); rintro e w5 ⟨a5, rfl, b5, k5⟩; have B5 : Below w0.heap.size w0 w5 := bCall (by repeat (first | exact B4 | refine bAl ?_ _ | refine bDr ?_)) b5) | (go_at_call 112; (with_reducible refine (o_mk o.by_ 2097152 _).mono ?_); rintro e w6 ⟨a6, rfl, b6, k6⟩; have B6 : Below w0.heap.size w0 w6 := bCall (by repeat (first | exact B5 | refine bAl ?_ _ | refine bDr ?_)) b6) | (go_at_call 112; (with_reducible refine (o_mk (IntKind.i64.wrap (o.crowd - 1)) 64 _).mono ?_); rintro e w7 ⟨a7, rfl, b7, k7⟩; have B7 : Below w0.heap.size w0 w7 := bCall (by repeat (first | exact B6 | refine bAl ?_ _ | refine bDr ?_)) b7) | (go_at_call 112; (with_reducible refine (o_mk o.pay 1099511627777 _).mono ?_); rintro e w8 ⟨a8, rfl, b8, k8⟩; have B8 : Below w0.heap.size w0 w8 := bCall (by repeat (first | exact B7 | refine bAl ?_ _ | refine bDr ?_)) b8) | (go_at_call 112; (with_reducible refine (o_mk o.els 3 _).mono ?_); rintro e w9 ⟨a9, rfl, b9, k9⟩; have B9 : Below w0.heap.size w0 w9 := bCall (by repeat (first | exact B8 | refine bAl ?_ _ | refine bDr ?_)) b9) | skip)
  refine shut_go hK KS ?_
  clear hK K
  refine wpSchedN_force (fun K hK => ?_)
  go_simp; (first | (go_at_call 112; (with_reducible refine (o_mk o.from_ n _).mono ?_); rintro e w1 ⟨a1, rfl, b1, k1⟩; have B1 : Below w0.heap.size w0 w1 := bCall (by repeat (first | exact bRefl _ | refine bAl ?_ _ | refine bDr ?_)) b1) | (go_at_call 112; (with_reducible refine (o_mk o.dest n _).mono ?_); rintro e w2 ⟨a2, rfl, b2, k2⟩; have B2 : Below w0.heap.size w0 w2 := bCall (by repeat (first | exact B1 | refine bAl ?_ _ | refine bDr ?_)) b2) | (go_at_call 112; (with_reducible refine (o_mk o.person people _).mono ?_); rintro e w3 ⟨a3, rfl, b3, k3⟩; have B3 : Below w0.heap.size w0 w3 := bCall (by repeat (first | exact B2 | refine bAl ?_ _ | refine bDr ?_)) b3) | (go_at_call 112; (with_reducible refine (o_mk o.cls classes _).mono ?_); rintro e w4 ⟨a4, rfl, b4, k4⟩; have B4 : Below w0.heap.size w0 w4 := bCall (by repeat (first | exact B3 | refine bAl ?_ _ | refine bDr ?_)) b4) | (go_at_call 112; (with_reducible refine (o_mk o.after o.by_ _).mono ?_); rintro e w5 ⟨a5, rfl, b5, k5⟩; have B5 : Below w0.heap.size w0 w5 := bCall (by repeat (first | exact B4 | refine bAl ?_ _ | refine bDr ?_)) b5) | (go_at_call 112; (with_reducible refine (o_mk o.by_ 2097152 _).mono ?_); rintro e w6 ⟨a6, rfl, b6, k6⟩; have B6 : Below w0.heap.size w0 w6 := bCall (by repeat (first | exact B5 | refine bAl ?_ _ | refine bDr ?_)) b6) | (go_at_call 112; (with_reducible refine (o_mk (IntKind.i64.wrap (o.crowd - 1)) 64 _).mono ?_); rintro e w7 ⟨a7, rfl, b7, k7⟩; have B7 : Below w0.heap.size w0 w7 := bCall (by repeat (first | exact B6 | refine bAl ?_ _ | refine bDr ?_)) b7) | (go_at_call 112; (with_reducible refine (o_mk o.pay 1099511627777 _).mono ?_); rintro e w8 ⟨a8, rfl, b8, k8⟩; have B8 : Below w0.heap.size w0 w8 := bCall (by repeat (first | exact B7 | refine bAl ?_ _ | refine bDr ?_)) b8) | (go_at_call 112; (with_reducible refine (o_mk o.els 3 _).mono ?_); rintro e w9 ⟨a9, rfl, b9, k9⟩; have B9 : Below w0.heap.size w0 w9 := bCall (by repeat (first | exact B8 | refine bAl ?_ _ | refine bDr ?_)) b9) | skip)
  refine shut_go hK KS ?_
  clear hK K
  refine wpSchedN_force (fun K hK => ?_)
  go_simp; (first | (go_at_call 112; (with_reducible refine (o_mk o.from_ n _).mono ?_); rintro e w1 ⟨a1, rfl, b1, k1⟩; have B1 : Below w0.heap.size w0 w1 := bCall (by repeat (first | exact bRefl _ | refine bAl ?_ _ | refine bDr ?_)) b1) | (go_at_call 112; (with_reducible refine (o_mk o.dest n _).mono ?_); rintro e w2 ⟨a2, rfl, b2, k2⟩; have B2 : Below w0.heap.size w0 w2 := bCall (by repeat (first | exact B1 | refine bAl ?_ _ | refine bDr ?_)) b2) | (go_at_call 112; (with_reducible refine (o_mk o.person people _).mono ?_); rintro e w3 ⟨a3, rfl, b3, k3⟩; have B3 : Below w0.heap.size w0 w3 := bCall (by repeat (first | exact B2 | refine bAl ?_ _ | refine bDr ?_)) b3) | (go_at_call 112; (with_reducible refine (o_mk o.cls classes _).mono ?_); rintro e w4 ⟨a4, rfl, b4, k4⟩; have B4 : Below w0.heap.size w0 w4 := bCall (by repeat (first | exact B3 | refine bAl ?_ _ | refine bDr ?_)) b4) | (go_at_call 112; (with_reducible refine (o_mk o.after o.by_ _).mono ?_); rintro e w5 ⟨a5, rfl, b5, k5⟩; have B5 : Below w0.heap.size w0 w5 := bCall (by repeat (first | exact B4 | refine bAl ?_ _ | refine bDr ?_)) b5) | (go_at_call 112; (with_reducible refine (o_mk o.by_ 2097152 _).mono ?_); rintro e w6 ⟨a6, rfl, b6, k6⟩; have B6 : Below w0.heap.size w0 w6 := bCall (by repeat (first | exact B5 | refine bAl ?_ _ | refine bDr ?_)) b6) | (go_at_call 112; (with_reducible refine (o_mk (IntKind.i64.wrap (o.crowd - 1)) 64 _).mono ?_); rintro e w7 ⟨a7, rfl, b7, k7⟩; have B7 : Below w0.heap.size w0 w7 := bCall (by repeat (first | exact B6 | refine bAl ?_ _ | refine bDr ?_)) b7) | (go_at_call 112; (with_reducible refine (o_mk o.pay 1099511627777 _).mono ?_); rintro e w8 ⟨a8, rfl, b8, k8⟩; have B8 : Below w0.heap.size w0 w8 := bCall (by repeat (first | exact B7 | refine bAl ?_ _ | refine bDr ?_)) b8) | (go_at_call 112; (with_reducible refine (o_mk o.els 3 _).mono ?_); rintro e w9 ⟨a9, rfl, b9, k9⟩; have B9 : Below w0.heap.size w0 w9 := bCall (by repeat (first | exact B8 | refine bAl ?_ _ | refine bDr ?_)) b9) | skip)
  refine shut_go hK KS ?_
  clear hK K
  refine wpSchedN_force (fun K hK => ?_)
  go_simp; (first | (go_at_call 112; (with_reducible refine (o_mk o.from_ n _).mono ?_); rintro e w1 ⟨a1, rfl, b1, k1⟩; have B1 : Below w0.heap.size w0 w1 := bCall (by repeat (first | exact bRefl _ | refine bAl ?_ _ | refine bDr ?_)) b1) | (go_at_call 112; (with_reducible refine (o_mk o.dest n _).mono ?_); rintro e w2 ⟨a2, rfl, b2, k2⟩; have B2 : Below w0.heap.size w0 w2 := bCall (by repeat (first | exact B1 | refine bAl ?_ _ | refine bDr ?_)) b2) | (go_at_call 112; (with_reducible refine (o_mk o.person people _).mono ?_); rintro e w3 ⟨a3, rfl, b3, k3⟩; have B3 : Below w0.heap.size w0 w3 := bCall (by repeat (first | exact B2 | refine bAl ?_ _ | refine bDr ?_)) b3) | (go_at_call 112; (with_reducible refine (o_mk o.cls classes _).mono ?_); rintro e w4 ⟨a4, rfl, b4, k4⟩; have B4 : Below w0.heap.size w0 w4 := bCall (by repeat (first | exact B3 | refine bAl ?_ _ | refine bDr ?_)) b4) | (go_at_call 112; (with_reducible refine (o_mk o.after o.by_ _).mono ?_); rintro e w5 ⟨a5, rfl, b5, k5⟩; have B5 : Below w0.heap.size w0 w5 := bCall (by repeat (first | exact B4 | refine bAl ?_ _ | refine bDr ?_)) b5) | (go_at_call 112; (with_reducible refine (o_mk o.by_ 2097152 _).mono ?_); rintro e w6 ⟨a6, rfl, b6, k6⟩; have B6 : Below w0.heap.size w0 w6 := bCall (by repeat (first | exact B5 | refine bAl ?_ _ | refine bDr ?_)) b6) | (go_at_call 112; (with_reducible refine (o_mk (IntKind.i64.wrap (o.crowd - 1)) 64 _).mono ?_); rintro e w7 ⟨a7, rfl, b7, k7⟩; have B7 : Below w0.heap.size w0 w7 := bCall (by repeat (first | exact B6 | refine bAl ?_ _ | refine bDr ?_)) b7) | (go_at_call 112; (with_reducible refine (o_mk o.pay 1099511627777 _).mono ?_); rintro e w8 ⟨a8, rfl, b8, k8⟩; have B8 : Below w0.heap.size w0 w8 := bCall (by repeat (first | exact B7 | refine bAl ?_ _ | refine bDr ?_)) b8) | (go_at_call 112; (with_reducible refine (o_mk o.els 3 _).mono ?_); rintro e w9 ⟨a9, rfl, b9, k9⟩; have B9 : Below w0.heap.size w0 w9 := bCall (by repeat (first | exact B8 | refine bAl ?_ _ | refine bDr ?_)) b9) | skip)
  refine shut_go hK KS ?_
  clear hK K
  refine wpSchedN_t ?_
  refine anyN_end ?_
  refine NoPanic.normal ?_
  obtain ⟨BO, BN, hA1⟩ := KB.out
  obtain ⟨L, hL⟩ : ∃ L : List (FuncId × Array Value × Bool), Hid (L = [(113, a1, blw o.from_ n), (113, a2, blw o.dest n), (113, a3, blw o.person people), (113, a4, blw o.cls classes), (113, a5, blw o.after o.by_), (113, a6, blw o.by_ 2097152), (113, a7, blw (IntKind.i64.wrap (o.crowd - 1)) 64), (113, a8, blw o.pay 1099511627777), (113, a9, blw o.els 3), (114, #[.pointer (some ⟨O, 0, none⟩)], decide (o.from_ ≠ o.dest)), (115, #[.pointer (some ⟨O, 0, none⟩), .pointer (some ⟨F, 0, none⟩)], agB n (-1) o.ag)]) := ⟨_, Lib.hid rfl⟩
  have hlen : L.length = 11 := by rw [hL.out]; rfl
  have hcl : Hid (#[Value.func (.func 113) #[] a1, Value.func (.func 113) #[] a2, Value.func (.func 113) #[] a3, Value.func (.func 113) #[] a4, Value.func (.func 113) #[] a5, Value.func (.func 113) #[] a6, Value.func (.func 113) #[] a7, Value.func (.func 113) #[] a8, Value.func (.func 113) #[] a9, .func (.func 114) #[] #[.pointer (some ⟨O, 0, none⟩)], .func (.func 115) #[] #[.pointer (some ⟨O, 0, none⟩), .pointer (some ⟨F, 0, none⟩)]] = (fnsCl L).toArray) := Lib.hid (by rw [hL.out]; rfl)
  have hvL : Hid (L.all (fun p => p.2.2) = v) := Lib.hid (by rw [hL.out, ← hv.out]; rfl)
  have hall : Hid (∀ p ∈ L, Asks w9 p.1 p.2.1 p.2.2) := Lib.hid (fun p hp => by
    rw [hL.out] at hp
    simp only [List.mem_cons, List.not_mem_nil, or_false] at hp
    rcases hp with rfl | rfl | rfl | rfl | rfl | rfl | rfl | rfl | rfl | rfl | rfl
    · exact k1|>.below b2|>.below b3|>.below b4|>.below b5|>.below b6|>.below b7|>.below b8|>.below b9
    · exact k2|>.below b3|>.below b4|>.below b5|>.below b6|>.below b7|>.below b8|>.below b9
    · exact k3|>.below b4|>.below b5|>.below b6|>.below b7|>.below b8|>.below b9
    · exact k4|>.below b5|>.below b6|>.below b7|>.below b8|>.below b9
    · exact k5|>.below b6|>.below b7|>.below b8|>.below b9
    · exact k6|>.below b7|>.below b8|>.below b9
    · exact k7|>.below b8|>.below b9
    · exact k8|>.below b9
    · exact k9
    · exact fun w' b => o_neq O o _ w' (BO.below (bCall B9 b) BO.lt)
    · exact fun w' b => o_against O F o A c n w' (BO.below (bCall B9 b) BO.lt) (BN.below (bCall B9 b) BN.lt) ((hA1.below (bCall B9 b)).more (bCall B9 b).size) hn)
  have hen : Hid (∀ p ∈ L, ∀ args w, (callFunc p.1 args).run Tryz.prog w = .ok (.enter p.1 args) w) := Lib.hid (fun p hp args w => by
    rw [hL.out] at hp
    simp only [List.mem_cons, List.not_mem_nil, or_false] at hp
    rcases hp with rfl | rfl | rfl | rfl | rfl | rfl | rfl | rfl | rfl | rfl | rfl
    iterate 9 exact enters_of Tryz.func113 (by kernel_rfl) rfl args w
    · exact enters_of Tryz.func114 (by kernel_rfl) rfl args w
    · exact enters_of Tryz.func115 (by kernel_rfl) rfl args w)
  have hbz := Lib.hid (fun w' (b : Below w9.heap.size w9 w') => hbx.out w' (bCall B9 b))
  rw [hcl.out]
  have BF := Blk.new w9 36 (fnsCl L).toArray _ rfl
  have hb9 := bAl (bRefl w9) (.cells (fnsCl L).toArray 36)
  clear hmf hcl hv hL KB KS BO BN hA1 hb hbx k1 b1 B1 k2 b2 B2 k3 b3 B3 k4 b4 B4 k5 b5 B5 k6 b6 B6 k7 b7 B7 k8 b8 B8 k9 b9 B9
  generalize w9.alloc (.cells (fnsCl L).toArray 36) = wz at *
  generalize hfb : w9.heap.size = fb at *
  go_wp2_with fail
  go_loopw [59] (fun i wr => ∃ k : Nat, k ≤ 11 ∧ i = .int .i64 k ∧ Below fb w9 wr ∧ Blk wr fb 36 (fnsCl L).toArray ∧ Hid (∀ p ∈ L.take k, (fun p : FuncId × Array Value × Bool => p.2.2) p = true)) (fun i _ => 11 - (intOf i).toNat)
  case atStart => exact ⟨0, by omega, rfl, hb9, BF, Lib.hid (by simp)⟩
  case round =>
    clear hb9 BF
    obtain ⟨k, hkn, rfl, hb, BF, hp⟩ := hrel
    by_cases hlt : k < 11
    · obtain ⟨p, hpk⟩ : ∃ p, Hid (L[k]? = some p) := ⟨_, Lib.hid (List.getElem?_eq_getElem (by omega))⟩
      have c0 : wr.cell? ⟨fb, k, none⟩ = some (.func (.func p.1) #[] p.2.1) := (BF.cell k).trans (by rw [List.getElem?_toArray]; unfold fnsCl; rw [List.getElem?_map, hpk.out]; rfl)
      have q := hall.out p (List.mem_of_getElem? hpk.out) wr (by rw [hfb]; exact hb)
      have he := hen.out p (List.mem_of_getElem? hpk.out)
      have e1 := Lib.hid (fun h : p.2.2 = true => all_on (p := fun p : FuncId × Array Value × Bool => p.2.2) hp.out hpk.out h)
      have e2 := Lib.hid (fun h : p.2.2 = false => hvL.out.symm.trans (all_no (p := fun p : FuncId × Array Value × Bool => p.2.2) hpk.out h))
      clear hpk
      obtain ⟨f, cap, ok⟩ := p
      dsimp only at c0 q he e1 e2
      have i0 : (0 : Int) ≤ (k : Int) := by omega
      have i1 : (k : Int) < 11 := by omega
      go_wp2_with fail
      (with_reducible refine q.mono ?_)
      rintro e w3 ⟨rfl, b3⟩
      clear q he c0
      replace BF := BF.below b3 BF.lt
      rw [← hfb] at hb
      replace hb := bCall hb b3
      cases ok
      · have hv := Lib.hid (e2.out rfl)
        go_wp2_with fail
        go_ret
        exact ⟨ret_bool hv.out.symm, by rw [hO]; exact hbz.out _ (by rw [hfb] at hb; exact hb)⟩
      · have hp2 := Lib.hid (e1.out rfl)
        rw [hfb] at hb
        go_wp2_with fail
        exact ⟨⟨k + 1, by omega, by go_num, hb, BF, hp2⟩, by simp [intOf]; omega⟩
    · have hv : Hid (v = true) := Lib.hid (hvL.out.symm.trans (List.all_eq_true.2 (by have := hp.out; rwa [List.take_of_length_le (by omega)] at this)))
      rw [← hfb] at hb
      go_wp2_with fail
      go_ret
      exact ⟨ret_bool hv.out.symm, by rw [hO]; exact hbz.out _ (by rw [hfb] at hb; exact hb)⟩
end Go.Proofs.YtmbopkcmbiommaaGreatDoor
