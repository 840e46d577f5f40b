/- A region that draws its order, walked in ONE order that a schedule names: each step is either TAKEN (it may come up at any time, and hangs on no world or only on S) or FORCED (nothing else may come up). -/
import Derived.Test.YtmbopkcmbiommaaGreatDoorRai
set_option maxRecDepth 1000000
set_option maxHeartbeats 16000000
namespace Go.Proofs.YtmbopkcmbiommaaGreatDoor
open Go
section
variable {P : Program} {ops : Array Oper} {Q : Exit → Act → World → Prop} {md : Region.Mode} {S : World → Prop} {f : Nat}
def schedOk (md : Region.Mode) (ops : Array Oper) (f : Nat) : List (Nat × Nat) → Array Bool → Bool
  | [], listed => (Region.ready md ops listed).isEmpty
  | (k, 0) :: s, listed => decide (Region.ready md ops listed = [k]) && schedOk md ops f s (listed.setIfInBounds k true)
  | (k, 1) :: s, listed => (Region.ready md ops listed).contains k && Region.free md ops listed k && cloB md ops listed && decide (k ≠ f) && schedOk md ops f s (listed.setIfInBounds k true)
  | (k, 2) :: s, listed => (Region.ready md ops listed).contains k && Region.free md ops listed k && cloB md ops listed && decide (k ≠ f) && roadB md ops f k (findRoad md ops f 6 k) && schedOk md ops f s (listed.setIfInBounds k true)
  | (k, _) :: s, listed => decide (Region.ready md ops listed = [k]) && (listed.setIfInBounds k true).getD f true && (s.all (fun x => decide (3 ≤ x.2)) && schedOk md ops f s (listed.setIfInBounds k true))
def pickS : List (Nat × Nat) → List Oper → List (Nat × Oper)
  | [], _ => []
  | (k, t) :: s, l => match l[k]? with
    | some o => (t, o) :: pickS s l
    | none => pickS s l
def wpSched (P : Program) (ops : Array Oper) (Q : Exit → Act → World → Prop) (S : World → Prop) : List (Nat × Oper) → Act → World → Prop
  | [], a, w => Q .normal a w
  | (0, o) :: l, a, w => if Region.wanted o (yielded ops a.tmps) = true then Oper.wp P o a w (fun a' w' => S w' ∧ wpSched P ops Q S l a' w') Q else (S w ∧ wpSched P ops Q S l (a.put o.dst undef) w)
  | (1, o) :: l, a, w => ∃ v, YieldsIf P ops (fun _ => True) o v a ∧ wpSched P ops Q S l (a.put o.dst v) w
  | (2, o) :: l, a, w => ∃ v, YieldsIf P ops S o v a ∧ wpSched P ops Q S l (a.put o.dst v) w
  | (_, o) :: l, a, w => wpList P ops Q (o :: l.map (·.2)) a w
theorem ready_some {listed : Array Bool} {k : Nat} (h : k ∈ Region.ready md ops listed) : ∃ o, ops[k]? = some o := by
  obtain ⟨_, oj, hoj, _⟩ := mem_ready.1 h
  exact ⟨oj, hoj⟩
theorem sched_last : ∀ (s : List (Nat × Nat)) (listed : Array Bool) (a : Act) (w : World), s.all (fun x => decide (3 ≤ x.2)) = true → schedOk md ops f s listed = true → wpList P ops Q ((pickS s ops.toList).map (·.2)) a w → wpAnyU P md ops Q S f s.length listed a w
  | [], listed, a, w, _, hB, h => wpAnyU_done (by simpa [schedOk] using hB) (by simpa [pickS, wpList] using h) _
  | (k, 0) :: s, listed, a, w, h3, _, _ => by simp at h3
  | (k, 1) :: s, listed, a, w, h3, _, _ => by simp at h3
  | (k, 2) :: s, listed, a, w, h3, _, _ => by simp at h3
  | (k, t + 3) :: s, listed, a, w, h3, hB, h => by
    simp only [schedOk, Bool.and_eq_true, decide_eq_true_eq] at hB
    obtain ⟨⟨h1, h2⟩, h4, h5⟩ := hB
    obtain ⟨o, ho⟩ := ready_some (md := md) (ops := ops) (listed := listed) (k := k) (by rw [h1]; simp)
    have ho' : ops.toList[k]? = some o := by simpa using ho
    simp only [pickS, ho', List.map_cons] at h
    refine ⟨fun h0 => (by rw [h1] at h0; cases h0), fun j hj => ?_⟩
    rw [h1] at hj
    obtain rfl : j = k := by simpa using hj
    have hw : wpOp P ops Q j (wpList P ops Q ((pickS s ops.toList).map (·.2))) a w := by unfold wpOp; simp only [ho]; exact h
    exact wpOp_mono (fun a' w' h' => ⟨fun h0 => (by rw [h2] at h0; cases h0), sched_last s _ a' w' h4 h5 h'⟩) hw
theorem sched_any (hs : Region.noSelect ops = true) (hQ : ∀ d v c a w, Q (.panic c) (Act.put a d v) w → Q (.panic c) a w) : ∀ (s : List (Nat × Nat)) (listed : Array Bool) (a : Act) (w : World),
    schedOk md ops f s listed = true → (listed.getD f true = false → S w) → wpSched P ops Q S (pickS s ops.toList) a w → wpAnyU P md ops Q S f s.length listed a w
  | [], listed, a, w, hB, _, h => wpAnyU_done (by simpa [schedOk] using hB) h _
  | (k, 0) :: s, listed, a, w, hB, hS, h => by
    simp only [schedOk, Bool.and_eq_true, decide_eq_true_eq] at hB
    obtain ⟨o, ho⟩ := ready_some (md := md) (ops := ops) (listed := listed) (k := k) (by rw [hB.1]; simp)
    have ho' : ops.toList[k]? = some o := by simpa using ho
    simp only [pickS, ho', wpSched] at h
    refine ⟨fun h0 => (by rw [hB.1] at h0; cases h0), fun j hj => ?_⟩
    rw [hB.1] at hj
    obtain rfl : j = k := by simpa using hj
    have hw : wpOp P ops Q j (fun a' w' => S w' ∧ wpSched P ops Q S (pickS s ops.toList) a' w') a w := by
      unfold wpOp
      simp only [ho]
      split at h
      · rename_i c; rw [if_pos c]; exact .inl h
      · rename_i c; rw [if_neg c]; exact h
    exact wpOp_mono (fun a' w' h' => ⟨fun _ => h'.1, sched_any hs hQ s _ a' w' hB.2 (fun _ => h'.1) h'.2⟩) hw
  | (k, 1) :: s, listed, a, w, hB, hS, h => by
    simp only [schedOk, Bool.and_eq_true, decide_eq_true_eq] at hB
    obtain ⟨⟨⟨⟨h1, h2⟩, h3⟩, h4⟩, h5⟩ := hB
    obtain ⟨o, ho⟩ := ready_some (md := md) (ops := ops) (listed := listed) (k := k) (by simpa using h1)
    have ho' : ops.toList[k]? = some o := by simpa using ho
    simp only [pickS, ho', wpSched] at h
    obtain ⟨v, hv, h⟩ := h
    exact wpAnyU_first (T := fun _ => True) ho (Region.noSelect_spec hs) (hQ _ _) h4 (fun _ _ _ _ _ => trivial) s.length listed a w (clo_spec h3) (Region.free_spec ho h2) (by simpa using h1) hv hS
      (sched_any hs hQ s _ _ w h5 (fun hf => hS (by rw [getD_set_ne true h4] at hf; exact hf)) h)
  | (k, 2) :: s, listed, a, w, hB, hS, h => by
    simp only [schedOk, Bool.and_eq_true, decide_eq_true_eq] at hB
    obtain ⟨⟨⟨⟨⟨h1, h2⟩, h3⟩, h4⟩, h6⟩, h5⟩ := hB
    obtain ⟨o, ho⟩ := ready_some (md := md) (ops := ops) (listed := listed) (k := k) (by simpa using h1)
    have ho' : ops.toList[k]? = some o := by simpa using ho
    simp only [pickS, ho', wpSched] at h
    obtain ⟨v, hv, h⟩ := h
    exact wpAnyU_first (T := S) ho (Region.noSelect_spec hs) (hQ _ _) h4 (fun _ _ hc hu hS => hS (road_spec hc _ k h6 hu)) s.length listed a w (clo_spec h3) (Region.free_spec ho h2) (by simpa using h1) hv hS
      (sched_any hs hQ s _ _ w h5 (fun hf => hS (by rw [getD_set_ne true h4] at hf; exact hf)) h)
  | (k, t + 3) :: s, listed, a, w, hB, hS, h => by
    refine sched_last ((k, t + 3) :: s) listed a w ?_ hB ?_
    · simp only [schedOk, Bool.and_eq_true] at hB
      simp only [List.all_cons, Bool.and_eq_true, decide_eq_true_eq]
      exact ⟨by omega, hB.2.1⟩
    · simp only [schedOk, Bool.and_eq_true, decide_eq_true_eq] at hB
      obtain ⟨o, ho⟩ := ready_some (md := md) (ops := ops) (listed := listed) (k := k) (by rw [hB.1.1]; simp)
      have ho' : ops.toList[k]? = some o := by simpa using ho
      simp only [pickS, ho', wpSched] at h
      simpa only [pickS, ho', List.map_cons] using h
def scheduled (md : Region.Mode) (ops : Array Oper) (f : Nat) (s : List (Nat × Nat)) : Bool :=
  Region.noSelect ops && decide (s.length = ops.size) && schedOk md ops f s (Array.replicate ops.size false)
theorem wp_region_sched {id : Nat} {l : List Oper} {a : Act} {w : World} (S : World → Prop) (f : Nat) (s : List (Nat × Nat)) (hm : P.follows .mixedOrders = true) (hB : scheduled .any l.toArray f s = true)
    (hS : S w.drew) (h : wpSched P l.toArray (NoPanic Q) S (pickS s l) a w.drew) : (Code.region id l.toArray true).wp P Q a w := by
  simp only [scheduled, Bool.and_eq_true, decide_eq_true_eq] at hB
  obtain ⟨⟨h1, h2⟩, h3⟩ := hB
  refine wp_region_noPanic (wp_region_any hm ?_)
  have := sched_any (md := .any) (f := f) (Q := NoPanic Q) (ops := l.toArray) h1 (fun _ _ _ _ _ h => h) s _ a w.drew h3 (fun _ => hS) (by simpa using h)
  have := wpAny_of_until _ _ _ _ this
  rw [h2] at this
  exact this
theorem wpSched_take {o : Oper} {l : List (Nat × Oper)} {a : Act} {w : World} {v : Value} (hw : Region.wanted o (yielded ops a.tmps) = true) (hv : ∀ w, True → (execOp a.eval o).run P w = .ok (.value v) w)
    (h : wpSched P ops Q S l (a.put o.dst v) w) : wpSched P ops Q S ((1, o) :: l) a w := ⟨v, .inl ⟨hw, hv⟩, h⟩
theorem wpSched_read {o : Oper} {l : List (Nat × Oper)} {a : Act} {w : World} {v : Value} (hw : Region.wanted o (yielded ops a.tmps) = true) (hv : ∀ w, S w → (execOp a.eval o).run P w = .ok (.value v) w)
    (h : wpSched P ops Q S l (a.put o.dst v) w) : wpSched P ops Q S ((2, o) :: l) a w := ⟨v, .inl ⟨hw, hv⟩, h⟩
theorem wpSched_force {o : Oper} {l : List (Nat × Oper)} {a : Act} {w : World}
    (h : ∀ K' : Act → World → Prop, Shut (∀ a w, S w → (S w → wpSched P ops Q S l a w) → K' a w) → if Region.wanted o (yielded ops a.tmps) = true then Oper.wp P o a w K' Q else K' (a.put o.dst undef) w) :
    wpSched P ops Q S ((0, o) :: l) a w := h _ (fun _ _ hS hW => ⟨hS, hW hS⟩)
theorem wpSched_last {o : Oper} {l : List (Nat × Oper)} {a : Act} {w : World} (h : wpList P ops Q (o :: l.map (·.2)) a w) : wpSched P ops Q S ((3, o) :: l) a w := h
end
end Go.Proofs.YtmbopkcmbiommaaGreatDoor
namespace Go.Proofs.YtmbopkcmbiommaaGreatDoor
open Go Go.RowKit
section
variable {P : Program} {ops : Array Oper} {Q : Exit → Act → World → Prop} {S : World → Prop} {o : Oper} {l : List (Nat × Oper)} {a a' : Act} {w w0 : World} {v : Value}
theorem wpSched_t (h : wpSched P ops Q S l a' w) (hw : Region.wanted o (yielded ops a.tmps) = true := by rfl)
    (hv : ∀ w, (execOp a.eval o).run P w = .ok (.value v) w := by intro w; go_simp; try with_reducible rfl)
    (ht : a.put o.dst v = a' := by (try simp only [Act.put, List.setIfInBounds_toArray, List.set_cons_zero, List.set_cons_succ]) <;> with_reducible rfl) : wpSched P ops Q S ((1, o) :: l) a w := by
  subst ht
  exact wpSched_take hw (fun w _ => hv w) h
theorem wpSched_r (h : wpSched P ops Q S l a' w) (hw : Region.wanted o (yielded ops a.tmps) = true := by rfl)
    (hv : ∀ w, S w → (execOp a.eval o).run P w = .ok (.value v) w := by intro w hSw; go_simp; try with_reducible rfl)
    (ht : a.put o.dst v = a' := by (try simp only [Act.put, List.setIfInBounds_toArray, List.set_cons_zero, List.set_cons_succ]) <;> with_reducible rfl) : wpSched P ops Q S ((2, o) :: l) a w := by
  subst ht
  exact wpSched_read hw hv h
theorem wpSched_p (h : wpSched P ops Q S l a' w) (hw : Region.wanted o (yielded ops a.tmps) = false := by rfl)
    (ht : a.put o.dst undef = a' := by (try simp only [Act.put, List.setIfInBounds_toArray, List.set_cons_zero, List.set_cons_succ]) <;> with_reducible rfl) : wpSched P ops Q S ((1, o) :: l) a w := by
  subst ht
  exact ⟨undef, .inr ⟨hw, rfl⟩, h⟩
theorem shut_go {X : Act → World → Prop} {K : Act → World → Prop} (hK : Shut (∀ a w, S w → (S w → X a w) → K a w)) (KS : Hid (∀ w', Below w0.heap.size w0 w' → S w')) (h : X a' w) (ht : a = a' := by (try simp only [Act.put, List.setIfInBounds_toArray, List.set_cons_zero, List.set_cons_succ]) <;> with_reducible rfl)
    (hb : Below w0.heap.size w0 w := by (repeat (first | with_reducible assumption | with_reducible exact bRefl _ | with_reducible refine bDr ?_ | with_reducible refine bAl ?_ _))) : K a w := by
  subst ht
  exact hK.out _ _ (KS.out _ hb) (fun _ => h)
theorem wp_region_schB {id f : Nat} {l : List Oper} (KS : Hid (∀ w', Below w0.heap.size w0 w' → S w')) (s : List (Nat × Nat)) (h : wpSched P l.toArray (NoPanic Q) S (pickS s l) a w.drew)
    (hm : P.follows .mixedOrders = true := by kernel_rfl) (hB : scheduled .any l.toArray f s = true := by kernel_rfl)
    (hb : Below w0.heap.size w0 w.drew := by (repeat (first | with_reducible assumption | with_reducible exact bRefl _ | with_reducible refine bDr ?_ | with_reducible refine bAl ?_ _))) : (Code.region id l.toArray true).wp P Q a w :=
  wp_region_sched S f s hm hB (KS.out _ hb) h
end
end Go.Proofs.YtmbopkcmbiommaaGreatDoor
