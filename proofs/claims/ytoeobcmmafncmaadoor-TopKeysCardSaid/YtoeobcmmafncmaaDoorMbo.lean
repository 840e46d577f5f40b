/-
  A region that draws, by a schedule that ends in TWO operations which may come up in either order (two stores): both orders are walked.
-/
import Derived.Test.YtoeobcmmafncmaaDoorMbm
import Derived.Test.YtoeobcmmafncmaaDoorMah
namespace Go.Proofs.YtoeobcmmafncmaaDoor
open Go Go.RowKit

section
variable {P : Program} {ops : Array Oper} {Q : Exit → Act → World → Prop} {md : Region.Mode} {S : World → Prop} {f : Nat}

/-- 0, 1, 2: as in 'schedOk'; 3: forced, f has come up; 4 and more: this one and the last one, in either order, f has come up. -/
def schedOkT (md : Region.Mode) (ops : Array Oper) (f : Nat) : List (Nat × Nat) → Array Bool → Bool
  | [], listed => (Region.ready md ops listed).isEmpty
  | (k, 0) :: s, listed => decide (Region.ready md ops listed = [k]) && schedOkT md ops f s (listed.setIfInBounds k true)
  | (k, 1) :: s, listed => (Region.ready md ops listed).contains k && Region.free md ops listed k && cloB md ops listed && decide (k ≠ f) && schedOkT md ops f s (listed.setIfInBounds k true)
  | (k, 2) :: s, listed => (Region.ready md ops listed).contains k && Region.free md ops listed k && cloB md ops listed && decide (k ≠ f) && roadB md ops f k (findRoad md ops f 6 k) && schedOkT md ops f s (listed.setIfInBounds k true)
  | (k, 3) :: s, listed => decide (Region.ready md ops listed = [k]) && (listed.setIfInBounds k true).getD f true && schedOkT md ops f s (listed.setIfInBounds k true)
  | (k, _ + 4) :: s, listed => match s with
    | [(j, _)] => decide (Region.ready md ops listed = [k, j]) && (decide (Region.ready md ops (listed.setIfInBounds k true) = [j]) && (decide (Region.ready md ops (listed.setIfInBounds j true) = [k]) && (decide (Region.ready md ops ((listed.setIfInBounds k true).setIfInBounds j true) = []) && (decide (Region.ready md ops ((listed.setIfInBounds j true).setIfInBounds k true) = []) && ((listed.setIfInBounds k true).getD f true && ((listed.setIfInBounds j true).getD f true && (((listed.setIfInBounds k true).setIfInBounds j true).getD f true && ((listed.setIfInBounds j true).setIfInBounds k true).getD f true)))))))
    | _ => false
def wpSchedT (P : Program) (ops : Array Oper) (Q : Exit → Act → World → Prop) (S : World → Prop) : List (Nat × Oper) → Act → World → Prop
  | [], a, w => Q .normal a w
  | (0, o) :: l, a, w => if Region.wanted o (yielded ops a.tmps) = true then Oper.wp P o a w (fun a' w' => S w' ∧ wpSchedT P ops Q S l a' w') Q else (S w ∧ wpSchedT P ops Q S l (a.put o.dst undef) w)
  | (1, o) :: l, a, w => ∃ v, YieldsIf P ops (fun _ => True) o v a ∧ wpSchedT P ops Q S l (a.put o.dst v) w
  | (2, o) :: l, a, w => ∃ v, YieldsIf P ops S o v a ∧ wpSchedT P ops Q S l (a.put o.dst v) w
  | (3, o) :: l, a, w => if Region.wanted o (yielded ops a.tmps) = true then Oper.wp P o a w (fun a' w' => wpSchedT P ops Q S l a' w') Q else wpSchedT P ops Q S l (a.put o.dst undef) w
  | (_ + 4, o) :: l, a, w => wpList P ops Q (o :: l.map (·.2)) a w ∧ wpList P ops Q (l.map (·.2) ++ [o]) a w

theorem any_one {listed : Array Bool} {j : Nat} {o : Oper} {a : Act} {w : World} (h1 : Region.ready md ops listed = [j]) (h2 : Region.ready md ops (listed.setIfInBounds j true) = []) (h3 : (listed.setIfInBounds j true).getD f true = true) (ho : ops[j]? = some o)
    (h : wpList P ops Q [o] a w) : wpAnyU P md ops Q S f 1 listed a w := by
  refine ⟨fun h0 => (by rw [h1] at h0; cases h0), fun i hi => ?_⟩
  rw [h1] at hi
  obtain rfl : i = j := by simpa using hi
  have hw : wpOp P ops Q i (wpList P ops Q []) a w := by unfold wpOp; simp only [ho]; exact h
  exact wpOp_mono (fun a' w' h' => ⟨fun h0 => (by rw [h3] at h0; cases h0), wpAnyU_done h2 h' 0⟩) hw
theorem any_two {listed : Array Bool} {k j : Nat} {o o' : Oper} {a : Act} {w : World} (h1 : Region.ready md ops listed = [k, j]) (k1 : Region.ready md ops (listed.setIfInBounds k true) = [j]) (j1 : Region.ready md ops (listed.setIfInBounds j true) = [k])
    (k2 : Region.ready md ops ((listed.setIfInBounds k true).setIfInBounds j true) = []) (j2 : Region.ready md ops ((listed.setIfInBounds j true).setIfInBounds k true) = [])
    (k3 : (listed.setIfInBounds k true).getD f true = true) (j3 : (listed.setIfInBounds j true).getD f true = true)
    (k4 : ((listed.setIfInBounds k true).setIfInBounds j true).getD f true = true) (j4 : ((listed.setIfInBounds j true).setIfInBounds k true).getD f true = true)
    (ho : ops[k]? = some o) (ho' : ops[j]? = some o') (h : wpList P ops Q [o, o'] a w) (h' : wpList P ops Q [o', o] a w) : wpAnyU P md ops Q S f 2 listed a w := by
  refine ⟨fun h0 => (by rw [h1] at h0; cases h0), fun i hi => ?_⟩
  rw [h1] at hi
  rcases List.mem_cons.1 hi with rfl | hi
  · have hw : wpOp P ops Q i (wpList P ops Q [o']) a w := by unfold wpOp; simp only [ho]; exact h
    exact wpOp_mono (fun a' w' hx => ⟨fun h0 => (by rw [k3] at h0; cases h0), any_one k1 k2 k4 ho' hx⟩) hw
  · obtain rfl : i = j := by simpa using hi
    have hw : wpOp P ops Q i (wpList P ops Q [o]) a w := by unfold wpOp; simp only [ho']; exact h'
    exact wpOp_mono (fun a' w' hx => ⟨fun h0 => (by rw [j3] at h0; cases h0), any_one j1 j2 j4 ho hx⟩) hw
theorem sched_anyT (hs : Region.noSelect ops = true) (hQ : ∀ d v c a w, Q (.panic c) (Act.put a d v) w → Q (.panic c) a w) : ∀ (s : List (Nat × Nat)) (listed : Array Bool) (a : Act) (w : World),
    schedOkT md ops f s listed = true → (listed.getD f true = false → S w) → wpSchedT P ops Q S (pickS s ops.toList) a w → wpAnyU P md ops Q S f s.length listed a w
  | [], listed, a, w, hB, _, h => wpAnyU_done (by simpa [schedOkT] using hB) h _
  | (k, 0) :: s, listed, a, w, hB, hS, h => by
    simp only [schedOkT, Bool.and_eq_true, decide_eq_true_eq] at hB
    obtain ⟨o, ho⟩ := ready_some (md := md) (ops := ops) (listed := listed) (k := k) (by rw [hB.1]; simp)
    have ho' : ops.toList[k]? = some o := by simpa using ho
    simp only [pickS, ho', wpSchedT] at h
    refine ⟨fun h0 => (by rw [hB.1] at h0; cases h0), fun j hj => ?_⟩
    rw [hB.1] at hj
    obtain rfl : j = k := by simpa using hj
    have hw : wpOp P ops Q j (fun a' w' => S w' ∧ wpSchedT P ops Q S (pickS s ops.toList) a' w') a w := by
      unfold wpOp
      simp only [ho]
      split at h
      · rename_i c; rw [if_pos c]; exact .inl h
      · rename_i c; rw [if_neg c]; exact h
    exact wpOp_mono (fun a' w' h' => ⟨fun _ => h'.1, sched_anyT hs hQ s _ a' w' hB.2 (fun _ => h'.1) h'.2⟩) hw
  | (k, 1) :: s, listed, a, w, hB, hS, h => by
    simp only [schedOkT, Bool.and_eq_true, decide_eq_true_eq] at hB
    obtain ⟨⟨⟨⟨h1, h2⟩, h3⟩, h4⟩, h5⟩ := hB
    obtain ⟨o, ho⟩ := ready_some (md := md) (ops := ops) (listed := listed) (k := k) (by simpa using h1)
    have ho' : ops.toList[k]? = some o := by simpa using ho
    simp only [pickS, ho', wpSchedT] at h
    obtain ⟨v, hv, h⟩ := h
    exact wpAnyU_first (T := fun _ => True) ho (Region.noSelect_spec hs) (hQ _ _) h4 (fun _ _ _ _ _ => trivial) s.length listed a w (clo_spec h3) (Region.free_spec ho h2) (by simpa using h1) hv hS
      (sched_anyT hs hQ s _ _ w h5 (fun hf => hS (by rw [getD_set_ne true h4] at hf; exact hf)) h)
  | (k, 2) :: s, listed, a, w, hB, hS, h => by
    simp only [schedOkT, Bool.and_eq_true, decide_eq_true_eq] at hB
    obtain ⟨⟨⟨⟨⟨h1, h2⟩, h3⟩, h4⟩, h6⟩, h5⟩ := hB
    obtain ⟨o, ho⟩ := ready_some (md := md) (ops := ops) (listed := listed) (k := k) (by simpa using h1)
    have ho' : ops.toList[k]? = some o := by simpa using ho
    simp only [pickS, ho', wpSchedT] at h
    obtain ⟨v, hv, h⟩ := h
    exact wpAnyU_first (T := S) ho (Region.noSelect_spec hs) (hQ _ _) h4 (fun _ _ hc hu hS => hS (road_spec hc _ k h6 hu)) s.length listed a w (clo_spec h3) (Region.free_spec ho h2) (by simpa using h1) hv hS
      (sched_anyT hs hQ s _ _ w h5 (fun hf => hS (by rw [getD_set_ne true h4] at hf; exact hf)) h)
  | (k, 3) :: s, listed, a, w, hB, hS, h => by
    simp only [schedOkT, Bool.and_eq_true, decide_eq_true_eq] at hB
    obtain ⟨⟨h1, h2⟩, h3⟩ := hB
    obtain ⟨o, ho⟩ := ready_some (md := md) (ops := ops) (listed := listed) (k := k) (by rw [h1]; simp)
    have ho' : ops.toList[k]? = some o := by simpa using ho
    simp only [pickS, ho', wpSchedT] at h
    refine ⟨fun h0 => (by rw [h1] at h0; cases h0), fun j hj => ?_⟩
    rw [h1] at hj
    obtain rfl : j = k := by simpa using hj
    have hw : wpOp P ops Q j (wpSchedT P ops Q S (pickS s ops.toList)) a w := by
      unfold wpOp
      simp only [ho]
      split at h
      · rename_i c; rw [if_pos c]; exact .inl h
      · rename_i c; rw [if_neg c]; exact h
    exact wpOp_mono (fun a' w' h' => ⟨fun h0 => (by rw [h2] at h0; cases h0), sched_anyT hs hQ s _ a' w' h3 (fun h0 => (by rw [h2] at h0; cases h0)) h'⟩) hw
  | [(k, t + 4)], listed, a, w, hB, hS, h => by simp [schedOkT] at hB
  | (k, t + 4) :: x :: y :: s, listed, a, w, hB, hS, h => by simp [schedOkT] at hB
  | [(k, t + 4), (j, u)], listed, a, w, hB, hS, h => by
    simp only [schedOkT, Bool.and_eq_true, decide_eq_true_eq] at hB
    obtain ⟨h1, k1, j1, k2, j2, k3, j3, k4, j4⟩ := hB
    obtain ⟨o, ho⟩ := ready_some (md := md) (ops := ops) (listed := listed) (k := k) (by rw [h1]; simp)
    obtain ⟨o', hj⟩ := ready_some (md := md) (ops := ops) (listed := listed) (k := j) (by rw [h1]; simp)
    have ho' : ops.toList[k]? = some o := by simpa using ho
    have hj' : ops.toList[j]? = some o' := by simpa using hj
    simp only [pickS, ho', hj', wpSchedT, List.map_cons, List.map_nil, List.cons_append, List.nil_append] at h
    exact any_two h1 k1 j1 k2 j2 k3 j3 k4 j4 ho hj h.1 h.2
def scheduledT (md : Region.Mode) (ops : Array Oper) (f : Nat) (s : List (Nat × Nat)) : Bool :=
  Region.noSelect ops && decide (s.length = ops.size) && schedOkT md ops f s (Array.replicate ops.size false)
theorem wp_region_schT {id : Nat} {l : List Oper} {a : Act} {w w0 : World} {f : Nat} (KS : Hid (∀ w', Below w0.heap.size w0 w' → S w')) (s : List (Nat × Nat)) (h : wpSchedT P l.toArray (NoPanic Q) S (pickS s l) a w.drew)
    (hm : P.follows .mixedOrders = true := by kernel_rfl) (hB : scheduledT .any l.toArray f s = true := by kernel_rfl)
    (hb : Below w0.heap.size w0 w.drew := by (repeat (first | with_reducible assumption | with_reducible exact bRefl _ | with_reducible refine bDr ?_ | with_reducible refine bAl ?_ _))) : (Code.region id l.toArray true).wp P Q a w := by
  simp only [scheduledT, Bool.and_eq_true, decide_eq_true_eq] at hB
  obtain ⟨⟨h1, h2⟩, h3⟩ := hB
  refine wp_region_noPanic (wp_region_any hm ?_)
  have := sched_anyT (md := .any) (f := f) (Q := NoPanic Q) (ops := l.toArray) h1 (fun _ _ _ _ _ h => h) s _ a w.drew h3 (fun _ => KS.out _ hb) (by simpa using h)
  have := wpAny_of_until _ _ _ _ this
  rw [h2] at this
  exact this
end
section
variable {P : Program} {ops : Array Oper} {Q : Exit → Act → World → Prop} {S : World → Prop} {o : Oper} {l : List (Nat × Oper)} {a a' : Act} {w w0 : World} {v : Value}
theorem wpSchedT_t (h : wpSchedT P ops Q S l a' w) (hw : Region.wanted o (yielded ops a.tmps) = true := by rfl)
    (hv : ∀ w, (execOp a.eval o).run P w = .ok (.value v) w := by intro w; go_simp; try with_reducible rfl)
    (ht : a.put o.dst v = a' := by (try simp only [Act.put, List.setIfInBounds_toArray, List.set_cons_zero, List.set_cons_succ]) <;> with_reducible rfl) : wpSchedT P ops Q S ((1, o) :: l) a w := by
  subst ht
  exact ⟨v, .inl ⟨hw, fun w _ => hv w⟩, h⟩
theorem wpSchedT_r (h : wpSchedT P ops Q S l a' w) (hw : Region.wanted o (yielded ops a.tmps) = true := by rfl)
    (hv : ∀ w, S w → (execOp a.eval o).run P w = .ok (.value v) w := by intro w hSw; go_simp; try with_reducible rfl)
    (ht : a.put o.dst v = a' := by (try simp only [Act.put, List.setIfInBounds_toArray, List.set_cons_zero, List.set_cons_succ]) <;> with_reducible rfl) : wpSchedT P ops Q S ((2, o) :: l) a w := by
  subst ht
  exact ⟨v, .inl ⟨hw, hv⟩, h⟩
theorem wpSchedT_p (h : wpSchedT P ops Q S l a' w) (hw : Region.wanted o (yielded ops a.tmps) = false := by rfl)
    (ht : a.put o.dst undef = a' := by (try simp only [Act.put, List.setIfInBounds_toArray, List.set_cons_zero, List.set_cons_succ]) <;> with_reducible rfl) : wpSchedT P ops Q S ((1, o) :: l) a w := by
  subst ht
  exact ⟨undef, .inr ⟨hw, rfl⟩, h⟩
theorem wpSchedT_force (h : ∀ K' : Act → World → Prop, Shut (∀ a w, S w → (S w → wpSchedT P ops Q S l a w) → K' a w) → if Region.wanted o (yielded ops a.tmps) = true then Oper.wp P o a w K' Q else K' (a.put o.dst undef) w) :
    wpSchedT P ops Q S ((0, o) :: l) a w := h _ (fun _ _ hS hW => ⟨hS, hW hS⟩)
theorem wpSchedT_on (h : ∀ K' : Act → World → Prop, Shut (∀ a w, wpSchedT P ops Q S l a w → K' a w) → if Region.wanted o (yielded ops a.tmps) = true then Oper.wp P o a w K' Q else K' (a.put o.dst undef) w) :
    wpSchedT P ops Q S ((3, o) :: l) a w := h _ (fun _ _ hW => hW)
theorem shut_on {X : Act → World → Prop} {K : Act → World → Prop} (hK : Shut (∀ a w, X a w → K a w)) (h : X a' w) (ht : a = a' := by (try simp only [Act.put, List.setIfInBounds_toArray, List.set_cons_zero, List.set_cons_succ]) <;> with_reducible rfl) : K a w := by
  subst ht
  exact hK.out _ _ h
theorem wpSchedT_two {t : Nat} (h1 : wpList P ops Q (o :: l.map (·.2)) a w) (h2 : wpList P ops Q (l.map (·.2) ++ [o]) a w) : wpSchedT P ops Q S ((t + 4, o) :: l) a w := ⟨h1, h2⟩
theorem wpSchedT_nil (h : Q .normal a w) : wpSchedT P ops Q S [] a w := h
end
end Go.Proofs.YtoeobcmmafncmaaDoor

/-
  Stores into the row that a slice owns.
-/
namespace Go.Proofs.YtoeobcmmafncmaaDoor
open Go Go.RowKit

/-- The slice owns the row g. -/
def OwnAt (w : World) (base : Nat) (e : TypeId) (size g n cap : Nat) (xs : List Value) : Prop := w.ownsRow base e size (.slice (some ⟨g, 0, none⟩) n cap) n xs
theorem OwnAt.parts {w : World} {base : Nat} {e : TypeId} {size g n cap : Nat} {xs : List Value} (h : w.ownsRow base e size (.slice (some ⟨g, 0, none⟩) n cap) n xs) :
    xs.length = n * size ∧ base ≤ g ∧ ∃ cur, Blk w g e cur ∧ n ≤ cap ∧ cap ≤ maxLen ∧ cur.size = cap * size ∧ cur.toList.take (n * size) = xs := by
  obtain ⟨h1, h2⟩ := h
  refine ⟨h1, ?_⟩
  rcases h2 with ⟨h2, _⟩ | ⟨g', cap', cur, hv, hb, hh, r1, r2, r3, r4⟩
  · cases h2
  · injection hv with e1 _ e3
    injection e1 with e1
    injection e1 with e1
    subst e1; subst e3
    exact ⟨hb, cur, hh, r1, r2, r3, r4⟩
theorem own_cell {w : World} {base : Nat} {e : TypeId} {size g n cap : Nat} {xs : List Value} (h : w.ownsRow base e size (.slice (some ⟨g, 0, none⟩) n cap) n xs) {i : Nat} {u : Value} (hi : xs[i]? = some u) : w.cell? ⟨g, i, none⟩ = some u := by
  obtain ⟨h1, h2, cur, hB, h3, h4, h5, h6⟩ := OwnAt.parts h
  rw [hB.cell i]
  rw [← h6, List.getElem?_take] at hi
  split at hi
  · simpa using hi
  · cases hi
theorem own_set {w : World} {base : Nat} {e : TypeId} {size g n cap : Nat} {xs : List Value} (h : w.ownsRow base e size (.slice (some ⟨g, 0, none⟩) n cap) n xs) (i : Nat) (u : Value) :
    (w.setCell ⟨g, i, none⟩ u).ownsRow base e size (.slice (some ⟨g, 0, none⟩) n cap) n (xs.set i u) := by
  obtain ⟨h1, h2, cur, hB, h3, h4, h5, h6⟩ := OwnAt.parts h
  refine ⟨by rw [List.length_set]; exact h1, .inr ⟨g, cap, cur.setIfInBounds i u, rfl, h2, hB.set_ i u, h3, h4, by simpa using h5, ?_⟩⟩
  rw [← h6, Array.toList_setIfInBounds, List.take_set]
theorem own_frozen {w : World} {base : Nat} {e : TypeId} {size g n cap : Nat} {xs : List Value} (h : w.ownsRow base e size (.slice (some ⟨g, 0, none⟩) n cap) n xs) (i : Nat) : w.frozen? ⟨g, i, none⟩ = false := by
  obtain ⟨h1, h2, cur, hB, _⟩ := OwnAt.parts h
  exact hB.frozen i
/-- A row stays when a row of another type grows. -/
theorem ownsRow_grew {w w' : World} {base base' : Nat} {e e' : TypeId} {size size' n n' : Nat} {v u u' : Value} {xs xs' : List Value} (h : w.ownsRow base e size v n xs) (hown : w.ownsRow base' e' size' u n' xs') (hg : Grew w w' u u') (hne : e ≠ e') : w'.ownsRow base e size v n xs := by
  obtain ⟨h1, h2⟩ := h
  refine ⟨h1, ?_⟩
  rcases h2 with h2 | ⟨g, cap, cur, hv, hgb, hh, r⟩
  · exact .inl h2
  · exact .inr ⟨g, cap, cur, hv, hgb, Grew.blk hg hown hh hne, r⟩
theorem ownsRow_setB {w : World} {base g i : Nat} {e t : TypeId} {size n : Nat} {v u : Value} {xs : List Value} {cs : Array Value} (h : w.ownsRow base e size v n xs) (hB : Blk w g t cs) (hne : t ≠ e) : (w.setCell ⟨g, i, none⟩ u).ownsRow base e size v n xs := by
  obtain ⟨h1, h2⟩ := h
  refine ⟨h1, ?_⟩
  rcases h2 with h2 | ⟨g', cap, cur, hv, hgb, hh, r⟩
  · exact .inl h2
  · refine .inr ⟨g', cap, cur, hv, hgb, (Below.heap_setCell _ _ _ _ ?_).trans hh, r⟩
    intro e2
    have e3 : g' = g := e2
    subst e3
    unfold Blk at hB
    rw [hB] at hh
    simp at hh
    exact hne hh.2
end Go.Proofs.YtoeobcmmafncmaaDoor
