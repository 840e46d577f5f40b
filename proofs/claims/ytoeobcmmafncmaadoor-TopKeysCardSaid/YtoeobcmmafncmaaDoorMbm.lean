/-
  A region that draws its order, walked in ONE order that a schedule names: each step is either TAKEN (it may come up at any time, and hangs on no world or only on S) or FORCED (nothing else may come up).
-/
import Derived.Test.YtoeobcmmafncmaaDoorMaq
import Derived.Test.YtoeobcmmafncmaaDoorMbl
import Derived.Deep.RegionWith
import Derived.Deep.DeepCutAuto
namespace Go.Proofs.YtoeobcmmafncmaaDoor
open Go

section
variable {P : Program} {ops : Array Oper} {Q : Exit → Act → World → Prop} {md : Region.Mode} {S : World → Prop} {f : Nat}

/-- 0: forced, S is shown behind it; 1: taken, hangs on no world; 2: taken, read under S ahead of f; 3: forced, f has come up. -/
def schedOk (md : Region.Mode) (ops : Array Oper) (f : Nat) : List (Nat × Nat) → Array Bool → Bool
  | [], listed => (Region.ready md ops listed).isEmpty
  | (k, 0) :: s, listed => decide (Region.ready md ops listed = [k]) && schedOk md ops f s (listed.setIfInBounds k true)
  | (k, 1) :: s, listed => (Region.ready md ops listed).contains k && Region.free md ops listed k && cloB md ops listed && decide (k ≠ f) && schedOk md ops f s (listed.setIfInBounds k true)
  | (k, 2) :: s, listed => (Region.ready md ops listed).contains k && Region.free md ops listed k && cloB md ops listed && decide (k ≠ f) && roadB md ops f k (findRoad md ops f 6 k) && schedOk md ops f s (listed.setIfInBounds k true)
  | (k, _) :: s, listed => decide (Region.ready md ops listed = [k]) && (listed.setIfInBounds k true).getD f true && (s.all (fun x => decide (3 ≤ x.2)) && schedOk md ops f s (listed.setIfInBounds k true))
def pickS : List (Nat × Nat) → List Oper → List (Nat × Oper)
  | [], _ => []
  | (k, t) :: s, l => match l[k]? with
    | some o => (t, o) :: pickS s l
    | none => pickS s l
def wpSched (P : Program) (ops : Array Oper) (Q : Exit → Act → World → Prop) (S : World → Prop) : List (Nat × Oper) → Act → World → Prop
  | [], a, w => Q .normal a w
  | (0, o) :: l, a, w => if Region.wanted o (yielded ops a.tmps) = true then Oper.wp P o a w (fun a' w' => S w' ∧ wpSched P ops Q S l a' w') Q else (S w ∧ wpSched P ops Q S l (a.put o.dst undef) w)
  | (1, o) :: l, a, w => ∃ v, YieldsIf P ops (fun _ => True) o v a ∧ wpSched P ops Q S l (a.put o.dst v) w
  | (2, o) :: l, a, w => ∃ v, YieldsIf P ops S o v a ∧ wpSched P ops Q S l (a.put o.dst v) w
  | (_, o) :: l, a, w => wpList P ops Q (o :: l.map (·.2)) a w

theorem ready_some {listed : Array Bool} {k : Nat} (h : k ∈ Region.ready md ops listed) : ∃ o, ops[k]? = some o := by
  obtain ⟨_, oj, hoj, _⟩ := mem_ready.1 h
  exact ⟨oj, hoj⟩
theorem sched_last : ∀ (s : List (Nat × Nat)) (listed : Array Bool) (a : Act) (w : World), s.all (fun x => decide (3 ≤ x.2)) = true → schedOk md ops f s listed = true → wpList P ops Q ((pickS s ops.toList).map (·.2)) a w → wpAnyU P md ops Q S f s.length listed a w
  | [], listed, a, w, _, hB, h => wpAnyU_done (by simpa [schedOk] using hB) (by simpa [pickS, wpList] using h) _
  | (k, 0) :: s, listed, a, w, h3, _, _ => by simp at h3
  | (k, 1) :: s, listed, a, w, h3, _, _ => by simp at h3
  | (k, 2) :: s, listed, a, w, h3, _, _ => by simp at h3
  | (k, t + 3) :: s, listed, a, w, h3, hB, h => by
    simp only [schedOk, Bool.and_eq_true, decide_eq_true_eq] at hB
    obtain ⟨⟨h1, h2⟩, h4, h5⟩ := hB
    obtain ⟨o, ho⟩ := ready_some (md := md) (ops := ops) (listed := listed) (k := k) (by rw [h1]; simp)
    have ho' : ops.toList[k]? = some o := by simpa using ho
    simp only [pickS, ho', List.map_cons] at h
    refine ⟨fun h0 => (by rw [h1] at h0; cases h0), fun j hj => ?_⟩
    rw [h1] at hj
    obtain rfl : j = k := by simpa using hj
    have hw : wpOp P ops Q j (wpList P ops Q ((pickS s ops.toList).map (·.2))) a w := by unfold wpOp; simp only [ho]; exact h
    exact wpOp_mono (fun a' w' h' => ⟨fun h0 => (by rw [h2] at h0; cases h0), sched_last s _ a' w' h4 h5 h'⟩) hw
theorem sched_any (hs : Region.noSelect ops = true) (hQ : ∀ d v c a w, Q (.panic c) (Act.put a d v) w → Q (.panic c) a w) : ∀ (s : List (Nat × Nat)) (listed : Array Bool) (a : Act) (w : World),
    schedOk md ops f s listed = true → (listed.getD f true = false → S w) → wpSched P ops Q S (pickS s ops.toList) a w → wpAnyU P md ops Q S f s.length listed a w
  | [], listed, a, w, hB, _, h => wpAnyU_done (by simpa [schedOk] using hB) h _
  | (k, 0) :: s, listed, a, w, hB, hS, h => by
    simp only [schedOk, Bool.and_eq_true, decide_eq_true_eq] at hB
    obtain ⟨o, ho⟩ := ready_some (md := md) (ops := ops) (listed := listed) (k := k) (by rw [hB.1]; simp)
    have ho' : ops.toList[k]? = some o := by simpa using ho
    simp only [pickS, ho', wpSched] at h
    refine ⟨fun h0 => (by rw [hB.1] at h0; cases h0), fun j hj => ?_⟩
    rw [hB.1] at hj
    obtain rfl : j = k := by simpa using hj
    have hw : wpOp P ops Q j (fun a' w' => S w' ∧ wpSched P ops Q S (pickS s ops.toList) a' w') a w := by
      unfold wpOp
      simp only [ho]
      split at h
      · rename_i c; rw [if_pos c]; exact .inl h
      · rename_i c; rw [if_neg c]; exact h
    exact wpOp_mono (fun a' w' h' => ⟨fun _ => h'.1, sched_any hs hQ s _ a' w' hB.2 (fun _ => h'.1) h'.2⟩) hw
  | (k, 1) :: s, listed, a, w, hB, hS, h => by
    simp only [schedOk, Bool.and_eq_true, decide_eq_true_eq] at hB
    obtain ⟨⟨⟨⟨h1, h2⟩, h3⟩, h4⟩, h5⟩ := hB
    obtain ⟨o, ho⟩ := ready_some (md := md) (ops := ops) (listed := listed) (k := k) (by simpa using h1)
    have ho' : ops.toList[k]? = some o := by simpa using ho
    simp only [pickS, ho', wpSched] at h
    obtain ⟨v, hv, h⟩ := h
    exact wpAnyU_first (T := fun _ => True) ho (Region.noSelect_spec hs) (hQ _ _) h4 (fun _ _ _ _ _ => trivial) s.length listed a w (clo_spec h3) (Region.free_spec ho h2) (by simpa using h1) hv hS
      (sched_any hs hQ s _ _ w h5 (fun hf => hS (by rw [getD_set_ne true h4] at hf; exact hf)) h)
  | (k, 2) :: s, listed, a, w, hB, hS, h => by
    simp only [schedOk, Bool.and_eq_true, decide_eq_true_eq] at hB
    obtain ⟨⟨⟨⟨⟨h1, h2⟩, h3⟩, h4⟩, h6⟩, h5⟩ := hB
    obtain ⟨o, ho⟩ := ready_some (md := md) (ops := ops) (listed := listed) (k := k) (by simpa using h1)
    have ho' : ops.toList[k]? = some o := by simpa using ho
    simp only [pickS, ho', wpSched] at h
    obtain ⟨v, hv, h⟩ := h
    exact wpAnyU_first (T := S) ho (Region.noSelect_spec hs) (hQ _ _) h4 (fun _ _ hc hu hS => hS (road_spec hc _ k h6 hu)) s.length listed a w (clo_spec h3) (Region.free_spec ho h2) (by simpa using h1) hv hS
      (sched_any hs hQ s _ _ w h5 (fun hf => hS (by rw [getD_set_ne true h4] at hf; exact hf)) h)
  | (k, t + 3) :: s, listed, a, w, hB, hS, h => by
    refine sched_last ((k, t + 3) :: s) listed a w ?_ hB ?_
    · simp only [schedOk, Bool.and_eq_true] at hB
      simp only [List.all_cons, Bool.and_eq_true, decide_eq_true_eq]
      exact ⟨by omega, hB.2.1⟩
    · simp only [schedOk, Bool.and_eq_true, decide_eq_true_eq] at hB
      obtain ⟨o, ho⟩ := ready_some (md := md) (ops := ops) (listed := listed) (k := k) (by rw [hB.1.1]; simp)
      have ho' : ops.toList[k]? = some o := by simpa using ho
      simp only [pickS, ho', wpSched] at h
      simpa only [pickS, ho', List.map_cons] using h
def scheduled (md : Region.Mode) (ops : Array Oper) (f : Nat) (s : List (Nat × Nat)) : Bool :=
  Region.noSelect ops && decide (s.length = ops.size) && schedOk md ops f s (Array.replicate ops.size false)
theorem wp_region_sched {id : Nat} {l : List Oper} {a : Act} {w : World} (S : World → Prop) (f : Nat) (s : List (Nat × Nat)) (hm : P.follows .mixedOrders = true) (hB : scheduled .any l.toArray f s = true)
    (hS : S w.drew) (h : wpSched P l.toArray (NoPanic Q) S (pickS s l) a w.drew) : (Code.region id l.toArray true).wp P Q a w := by
  simp only [scheduled, Bool.and_eq_true, decide_eq_true_eq] at hB
  obtain ⟨⟨h1, h2⟩, h3⟩ := hB
  refine wp_region_noPanic (wp_region_any hm ?_)
  have := sched_any (md := .any) (f := f) (Q := NoPanic Q) (ops := l.toArray) h1 (fun _ _ _ _ _ h => h) s _ a w.drew h3 (fun _ => hS) (by simpa using h)
  have := wpAny_of_until _ _ _ _ this
  rw [h2] at this
  exact this
theorem wpSched_take {o : Oper} {l : List (Nat × Oper)} {a : Act} {w : World} {v : Value} (hw : Region.wanted o (yielded ops a.tmps) = true) (hv : ∀ w, True → (execOp a.eval o).run P w = .ok (.value v) w)
    (h : wpSched P ops Q S l (a.put o.dst v) w) : wpSched P ops Q S ((1, o) :: l) a w := ⟨v, .inl ⟨hw, hv⟩, h⟩
theorem wpSched_read {o : Oper} {l : List (Nat × Oper)} {a : Act} {w : World} {v : Value} (hw : Region.wanted o (yielded ops a.tmps) = true) (hv : ∀ w, S w → (execOp a.eval o).run P w = .ok (.value v) w)
    (h : wpSched P ops Q S l (a.put o.dst v) w) : wpSched P ops Q S ((2, o) :: l) a w := ⟨v, .inl ⟨hw, hv⟩, h⟩
theorem wpSched_force {o : Oper} {l : List (Nat × Oper)} {a : Act} {w : World}
    (h : ∀ K' : Act → World → Prop, Shut (∀ a w, S w → (S w → wpSched P ops Q S l a w) → K' a w) → if Region.wanted o (yielded ops a.tmps) = true then Oper.wp P o a w K' Q else K' (a.put o.dst undef) w) :
    wpSched P ops Q S ((0, o) :: l) a w := h _ (fun _ _ hS hW => ⟨hS, hW hS⟩)
theorem wpSched_last {o : Oper} {l : List (Nat × Oper)} {a : Act} {w : World} (h : wpList P ops Q (o :: l.map (·.2)) a w) : wpSched P ops Q S ((3, o) :: l) a w := h
theorem wpSched_nil {a : Act} {w : World} (h : Q .normal a w) : wpSched P ops Q S [] a w := h
end
end Go.Proofs.YtoeobcmmafncmaaDoor

/-
  A region that draws, by a schedule: the same steps in few words (side conditions by tactics of their own).
-/
namespace Go.Proofs.YtoeobcmmafncmaaDoor
open Go Go.RowKit

section
variable {P : Program} {ops : Array Oper} {Q : Exit → Act → World → Prop} {S : World → Prop} {o : Oper} {l : List (Nat × Oper)} {a a' : Act} {w w0 : World} {v : Value}
theorem wpSched_t (h : wpSched P ops Q S l a' w) (hw : Region.wanted o (yielded ops a.tmps) = true := by rfl)
    (hv : ∀ w, (execOp a.eval o).run P w = .ok (.value v) w := by intro w; go_simp; try with_reducible rfl)
    (ht : a.put o.dst v = a' := by (try simp only [Act.put, List.setIfInBounds_toArray, List.set_cons_zero, List.set_cons_succ]) <;> with_reducible rfl) : wpSched P ops Q S ((1, o) :: l) a w := by
  subst ht
  exact wpSched_take hw (fun w _ => hv w) h
theorem wpSched_r (h : wpSched P ops Q S l a' w) (hw : Region.wanted o (yielded ops a.tmps) = true := by rfl)
    (hv : ∀ w, S w → (execOp a.eval o).run P w = .ok (.value v) w := by intro w hSw; go_simp; try with_reducible rfl)
    (ht : a.put o.dst v = a' := by (try simp only [Act.put, List.setIfInBounds_toArray, List.set_cons_zero, List.set_cons_succ]) <;> with_reducible rfl) : wpSched P ops Q S ((2, o) :: l) a w := by
  subst ht
  exact wpSched_read hw hv h
theorem wpSched_p (h : wpSched P ops Q S l a' w) (hw : Region.wanted o (yielded ops a.tmps) = false := by rfl)
    (ht : a.put o.dst undef = a' := by (try simp only [Act.put, List.setIfInBounds_toArray, List.set_cons_zero, List.set_cons_succ]) <;> with_reducible rfl) : wpSched P ops Q S ((1, o) :: l) a w := by
  subst ht
  exact ⟨undef, .inr ⟨hw, rfl⟩, h⟩
theorem shut_go {X : Act → World → Prop} {K : Act → World → Prop} (hK : Shut (∀ a w, S w → (S w → X a w) → K a w)) (KS : Hid (∀ w', Below w0.heap.size w0 w' → S w')) (h : X a' w) (ht : a = a' := by (try simp only [Act.put, List.setIfInBounds_toArray, List.set_cons_zero, List.set_cons_succ]) <;> with_reducible rfl)
    (hb : Below w0.heap.size w0 w := by (repeat (first | with_reducible assumption | with_reducible exact bRefl _ | with_reducible refine bDr ?_ | with_reducible refine bAl ?_ _))) : K a w := by
  subst ht
  exact hK.out _ _ (KS.out _ hb) (fun _ => h)
theorem wp_region_schB {id f : Nat} {l : List Oper} (KS : Hid (∀ w', Below w0.heap.size w0 w' → S w')) (s : List (Nat × Nat)) (h : wpSched P l.toArray (NoPanic Q) S (pickS s l) a w.drew)
    (hm : P.follows .mixedOrders = true := by kernel_rfl) (hB : scheduled .any l.toArray f s = true := by kernel_rfl)
    (hb : Below w0.heap.size w0 w.drew := by (repeat (first | with_reducible assumption | with_reducible exact bRefl _ | with_reducible refine bDr ?_ | with_reducible refine bAl ?_ _))) : (Code.region id l.toArray true).wp P Q a w :=
  wp_region_sched S f s hm hB (KS.out _ hb) h
end
end Go.Proofs.YtoeobcmmafncmaaDoor

/-
  epochs.Key, walked where it succeeds.
-/
namespace Go.Proofs.YtoeobcmmafncmaaDoor
open Go.RowKit
attribute [local go_sem] Oper.semAt_some

def lastS (pre : List Ep) : Int × Bool := pre.foldl (fun _ e => (e.k, true)) (0, false)
theorem lastS_snoc (pre : List Ep) (e : Ep) : lastS (pre ++ [e]) = (e.k, true) := by simp [lastS]
theorem keyF_of {o t : Int} : ∀ (l : List Ep) (r : Int × Bool), keyF o t l r = keyF o t (ofL o l) r
  | [], _ => rfl
  | x :: l, r => by
    by_cases h : x.o = o
    · have e : ofL o (x :: l) = x :: ofL o l := by unfold ofL; rw [List.filter_cons_of_pos (by simp [h])]
      rw [e]
      show (if x.o = o then (if t < x.f then r else keyF o t l (x.k, true)) else keyF o t l r) = (if x.o = o then (if t < x.f then r else keyF o t (ofL o l) (x.k, true)) else _)
      rw [if_pos h, if_pos h, keyF_of l]
    · have e : ofL o (x :: l) = ofL o l := by unfold ofL; rw [List.filter_cons_of_neg (by simp [h])]
      rw [e]
      show (if x.o = o then _ else keyF o t l r) = _
      rw [if_neg h, keyF_of l]
theorem keyF_pre {o t : Int} : ∀ (p q : List Ep) (r : Int × Bool), (∀ x ∈ p, x.o = o ∧ x.f ≤ t) → keyF o t (p ++ q) r = keyF o t q (p.foldl (fun _ e => (e.k, true)) r)
  | [], _, _, _ => rfl
  | x :: p, q, r, h => by
    obtain ⟨h1, h2⟩ := h x (by simp)
    show (if x.o = o then (if t < x.f then r else keyF o t (p ++ q) (x.k, true)) else _) = _
    rw [if_pos h1, if_neg (by omega), keyF_pre p q _ (fun y hy => h y (by simp [hy]))]
    rfl
theorem ofL_o {o : Int} {l : List Ep} : ∀ x ∈ ofL o l, x.o = o := fun x hx => by simpa using (List.mem_filter.1 hx).2
theorem key_done {o t : Int} {l : List Ep} (h : ∀ x ∈ ofL o l, x.f ≤ t) : keyF o t l (0, false) = lastS (ofL o l) := by
  rw [keyF_of]
  have := keyF_pre (o := o) (t := t) (ofL o l) [] (0, false) (fun x hx => ⟨ofL_o x hx, h x hx⟩)
  rw [List.append_nil] at this
  exact this
theorem key_stop {o t : Int} {l p : List Ep} {x : Ep} (h : p ++ [x] <+: ofL o l) (hp : ∀ y ∈ p, y.f ≤ t) (hx : t < x.f) : keyF o t l (0, false) = lastS p := by
  obtain ⟨q, hq⟩ := h
  have hm : ∀ y ∈ p ++ [x], y.o = o := fun y hy => ofL_o (l := l) y (by rw [← hq]; exact List.mem_append_left _ hy)
  rw [keyF_of, ← hq, List.append_assoc, keyF_pre p _ _ (fun y hy => ⟨hm y (by simp [hy]), hp y hy⟩)]
  show (if x.o = o then (if t < x.f then _ else _) else _) = _
  rw [if_pos (hm x (by simp)), if_pos hx]
  rfl
theorem ret_kbe {k k' : Int} {b b' : Bool} (h : (k, b) = (k', b')) : Ending.returned (.tuple #[.int .i64 k, .bool b, .int .i64 0]) = .returned (.tuple #[.int .i64 k', .bool b', .int .i64 0]) := by
  injection h with h1 h2; rw [h1, h2]
set_option maxRecDepth 100000 in
set_option maxHeartbeats 4000000 in
theorem ep_key (A : Option Addr) (c : Nat) (l : List Ep) (o t : Int) (W : World) (hA : Rd W W.heap.size 3 A l.length (l.flatMap Ep.cl)) (hl : epsOk l) (ho : 0 ≤ o ∧ o < 24) (ht : 0 ≤ t ∧ t < 2097152) :
    Calls Tryd.prog 12 #[.slice A l.length c, .int .i64 o, .int .i64 t] W (Ret (.tuple #[.int .i64 (keyF o t l (0, false)).1, .bool (keyF o t l (0, false)).2, .int .i64 0]) W) := by
  refine calls_of_wp_dm Tryd.func12 rfl ?_
  simp only [Tryd.ntmps12, List.size_toArray, List.length_cons, List.length_nil, Nat.reduceAdd, Nat.reduceSub, Array.replicate_succ, Array.replicate_zero, List.push_toArray, List.append_toArray, List.nil_append, List.cons_append]
  obtain ⟨o0, o1⟩ := ho
  obtain ⟨t0, t1⟩ := ht
  have B0 := ((Blk.new W 3 #[.int .i64 t] _ rfl).alloc (.cells #[.int .i64 0] 3)).alloc (.cells #[.bool false] 4)
  have B1 := (Blk.new (W.alloc (.cells #[.int .i64 t] 3)) 3 #[.int .i64 0] (W.heap.size + 1) (by simp)).alloc (.cells #[.bool false] 4)
  have B2 := Blk.new ((W.alloc (.cells #[.int .i64 t] 3)).alloc (.cells #[.int .i64 0] 3)) 4 #[.bool false] (W.heap.size + 1 + 1) (by simp)
  have hb := bAl (bAl (bAl (bRefl W) (.cells #[.int .i64 t] 3)) (.cells #[.int .i64 0] 3)) (.cells #[.bool false] 4)
  go_upto_region 1 with fail
  generalize ((W.alloc (.cells #[.int .i64 t] 3)).alloc (.cells #[.int .i64 0] 3)).alloc (.cells #[.bool false] 4) = w1 at *
  have q := ep_check A c l w1 ((hA.below hb).more hb.size) hl
  go_wp2_with fail
  (with_reducible refine q.mono ?_)
  rintro e w2 ⟨rfl, b2⟩
  clear q
  replace B0 := B0.below b2 B0.lt
  replace B1 := B1.below b2 B1.lt
  replace B2 := B2.below b2 B2.lt
  replace hb := bCall hb b2
  clear b2
  have d0 : w2.cell? ⟨W.heap.size, 0, none⟩ = some (.int .i64 t) := B0.cell 0
  have hm : ¬ (if o < t then o else t) < 0 := by split <;> omega
  have hm2 : ¬ (min o t) < 0 := by omega
  go_wp2_with fail
  refine (of_any _ _ _ _ _).mono ?_
  rintro e w3 ⟨rfl, rfl⟩
  have BP := (Blk.new w2 40 #[.slice A l.length c] _ rfl).alloc (.cells #[.int .i64 o] 3)
  have BO := Blk.new (w2.alloc (.cells #[.slice A l.length c] 40)) 3 #[.int .i64 o] (w2.heap.size + 1) (by simp)
  replace hb := bAl (bAl hb (.cells #[.slice A l.length c] 40)) (.cells #[.int .i64 o] 3)
  replace B0 := (B0.alloc (.cells #[.slice A l.length c] 40)).alloc (.cells #[.int .i64 o] 3)
  replace B1 := (B1.alloc (.cells #[.slice A l.length c] 40)).alloc (.cells #[.int .i64 o] 3)
  have hlt2 : W.heap.size + 1 + 1 < w2.heap.size := B2.lt
  replace B2 := (B2.alloc (.cells #[.slice A l.length c] 40)).alloc (.cells #[.int .i64 o] 3)
  clear d0 hm hm2
  generalize (w2.alloc (.cells #[.slice A l.length c] 40)).alloc (.cells #[.int .i64 o] 3) = w3 at *
  generalize w2.heap.size = bp at *
  go_wp2_with fail
  refine wp_rangeC 2 (gf := 54) (lb := #[.pointer (some ⟨bp, 0, none⟩), .pointer (some ⟨bp + 1, 0, none⟩)]) rfl (enters_of Tryd.func54 (by kernel_rfl) rfl)
    (fun k => k < W.heap.size ∨ k = bp ∨ k = bp + 1) (of_stops bp (bp + 1) W.heap.size (fun k => k < W.heap.size ∨ k = bp ∨ k = bp + 1) (.inr (.inl rfl)) (.inr (.inr rfl)) A c o l w3 (fun k hk => .inl hk) BP BO (hA.below hb) hb.size hl.1) (fun _ => rfl) W hb
    (fun pre => [(W.heap.size, 3, #[.int .i64 t]), (W.heap.size + 1, 3, #[.int .i64 (lastS pre).1]), (W.heap.size + 1 + 1, 4, #[.bool (lastS pre).2])])
    (fun pre => ∀ x ∈ pre, x.f ≤ t)
    (fun _ pre => [(W.heap.size + 1, 3, #[.int .i64 (lastS pre.dropLast).1]), (W.heap.size + 1 + 1, 4, #[.bool (lastS pre.dropLast).2])])
    (fun co pre => co = .exit 0 ∧ ∃ p x, pre = p ++ [x] ∧ (∀ y ∈ p, y.f ≤ t) ∧ t < x.f) ⟨B0, B1, B2, trivial⟩ (fun x hx => by cases hx) ?round ?done ?stop
  case round =>
    clear B0 B1 B2 BP BO
    rintro L0 pre x Wc hlen hbc ⟨B0, B1, B2, _⟩ hRp
    dsimp only at B0 B1 B2
    dsimp only [Ep.agg]
    have BX := Blk.new Wc 43 #[.int .i64 x.o, .int .i64 x.f, .int .i64 x.k] _ rfl
    have hbx := bAl (bRefl Wc) (.cells #[.int .i64 x.o, .int .i64 x.f, .int .i64 x.k] 43)
    gi_wp2
    refine ⟨[(Wc.heap.size, 43, #[.int .i64 x.o, .int .i64 x.f, .int .i64 x.k])], KeepsOthers.below hbx, KeepsC.below hbx, bCall hbc hbx, ⟨BX, B0.below hbx B0.lt, B1.below hbx B1.lt, B2.below hbx B2.lt, trivial⟩, ?_⟩
    clear B0 B1 B2 BX hbx
    rintro L W2 hb2 ⟨BX, B0, B1, B2, _⟩
    dsimp only at BX B0 B1 B2
    generalize Wc.heap.size = xb at *
    have x1 : W2.cell? ⟨xb, 1, none⟩ = some (.int .i64 x.f) := BX.cell 1
    have x2 : W2.cell? ⟨xb, 2, none⟩ = some (.int .i64 x.k) := BX.cell 2
    have y0 : W2.cell? ⟨W.heap.size, 0, none⟩ = some (.int .i64 t) := B0.cell 0
    by_cases hlt : t < x.f
    · gi_wp2
      exact ⟨KeepsOthers.refl _, hb2, ⟨by rw [List.dropLast_concat]; exact B1, by rw [List.dropLast_concat]; exact B2, trivial⟩, rfl, pre, x, rfl, hRp, hlt⟩
    · have y1 : W2.cell? ⟨W.heap.size + 1, 0, none⟩ = some (.int .i64 (lastS pre).1) := B1.cell 0
      have y2 : W2.cell? ⟨W.heap.size + 1 + 1, 0, none⟩ = some (.bool (lastS pre).2) := B2.cell 0
      have z1 := B1.frozen 0
      have z2 := B2.frozen 0
      gi_wp2
      refine ⟨(KeepsOthers.setCell _ _ _).trans (KeepsOthers.setCell _ _ _), ((KeepsC.refl _ _).set_ (p := ⟨W.heap.size + 1, 0, none⟩) (by show ¬ (W.heap.size + 1 < W.heap.size ∨ W.heap.size + 1 = bp ∨ W.heap.size + 1 = bp + 1); omega) _).set_ (p := ⟨W.heap.size + 1 + 1, 0, none⟩) (by show ¬ (W.heap.size + 1 + 1 < W.heap.size ∨ W.heap.size + 1 + 1 = bp ∨ W.heap.size + 1 + 1 = bp + 1); omega) _,
        bSet (bSet hb2 (p := ⟨W.heap.size + 1, 0, none⟩) (by show W.heap.size ≤ W.heap.size + 1; omega) _) (p := ⟨W.heap.size + 1 + 1, 0, none⟩) (by show W.heap.size ≤ W.heap.size + 1 + 1; omega) _, ⟨(B0.far (p := ⟨W.heap.size + 1, 0, none⟩) (by show W.heap.size ≠ W.heap.size + 1; omega) _).far (p := ⟨W.heap.size + 1 + 1, 0, none⟩) (by show W.heap.size ≠ W.heap.size + 1 + 1; omega) _, ?_, ?_, trivial⟩, fun y hy => ?_⟩
      · rw [lastS_snoc]; exact (B1.set_ 0 (.int .i64 x.k)).far (p := ⟨W.heap.size + 1 + 1, 0, none⟩) (by show W.heap.size + 1 ≠ W.heap.size + 1 + 1; omega) _
      · rw [lastS_snoc]; exact (B2.far (p := ⟨W.heap.size + 1, 0, none⟩) (by show W.heap.size + 1 + 1 ≠ W.heap.size + 1; omega) _).set_ 0 (.bool true)
      · rcases List.mem_append.1 hy with hy | hy
        · exact hRp y hy
        · obtain rfl : y = x := by simpa using hy
          omega
  case' done =>
    clear B0 B1 B2 BP BO
    rintro D xs Wc hD rfl hbc ⟨B0, B1, B2, _⟩ hRp hd
    dsimp only at B1 B2
    have hv := Lib.hid (key_done hRp)
    clear hRp B0
    generalize lastS (ofL o l) = r at *
  case' stop =>
    clear B0 B1 B2 BP BO
    rintro D co pre Wc hD hpre hbc ⟨B1, B2, _⟩ ⟨rfl, p, x, rfl, hp, hx⟩ hd
    dsimp only at B1 B2
    rw [List.dropLast_concat] at B1 B2
    have hv := Lib.hid (key_stop hpre hp hx)
    clear hpre hp hx
    generalize lastS p = r at *
  all_goals
    have y1 : Wc.cell? ⟨W.heap.size + 1, 0, none⟩ = some (.int .i64 r.1) := B1.cell 0
    have y2 : Wc.cell? ⟨W.heap.size + 1 + 1, 0, none⟩ = some (.bool r.2) := B2.cell 0
    have z1 := B1.frozen 0
    have z2 := B2.frozen 0
    have C1 := (B1.set_ 0 (.int .i64 r.1)).far (p := ⟨W.heap.size + 1 + 1, 0, none⟩) (by show W.heap.size + 1 ≠ W.heap.size + 1 + 1; omega) (.bool r.2)
    have C2 := (B2.far (p := ⟨W.heap.size + 1, 0, none⟩) (by show W.heap.size + 1 + 1 ≠ W.heap.size + 1; omega) (.int .i64 r.1)).set_ 0 (.bool r.2)
    have hb3 := bSet (bSet hbc (p := ⟨W.heap.size + 1, 0, none⟩) (by show W.heap.size ≤ W.heap.size + 1; omega) (.int .i64 r.1)) (p := ⟨W.heap.size + 1 + 1, 0, none⟩) (by show W.heap.size ≤ W.heap.size + 1 + 1; omega) (.bool r.2)
    have hm := ((Below.heap_setCell _ ⟨W.heap.size + 1 + 1, 0, none⟩ (.bool r.2) D (ne_mark (B2.far (p := ⟨W.heap.size + 1, 0, none⟩) (by show W.heap.size + 1 + 1 ≠ W.heap.size + 1; omega) (.int .i64 r.1)) ((Below.heap_setCell Wc ⟨W.heap.size + 1, 0, none⟩ (.int .i64 r.1) D (ne_mark B1 hd rfl).symm).trans hd) rfl).symm).trans ((Below.heap_setCell Wc ⟨W.heap.size + 1, 0, none⟩ (.int .i64 r.1) D (ne_mark B1 hd rfl).symm).trans hd))
    have y3 : (Wc.drew.setCell ⟨W.heap.size + 1, 0, none⟩ (.int .i64 r.1)).cell? ⟨W.heap.size + 1, 0, none⟩ = some (.int .i64 r.1) := (B1.set_ 0 (.int .i64 r.1)).cell 0
    have y4 : (Wc.drew.setCell ⟨W.heap.size + 1, 0, none⟩ (.int .i64 r.1)).cell? ⟨W.heap.size + 1 + 1, 0, none⟩ = some (.bool r.2) := (B2.far (p := ⟨W.heap.size + 1, 0, none⟩) (by show W.heap.size + 1 + 1 ≠ W.heap.size + 1; omega) (.int .i64 r.1)).cell 0
    go_upto_region 10 with fail
    refine wp_region_sched (fun w' => w'.cell? ⟨W.heap.size + 1, 0, none⟩ = some (.int .i64 r.1) ∧ w'.cell? ⟨W.heap.size + 1 + 1, 0, none⟩ = some (.bool r.2)) 3 [(0, 2), (1, 2), (2, 0), (3, 3), (4, 3)] (by kernel_rfl) (by kernel_rfl) (by first | exact ⟨y1, y2⟩ | exact ⟨y3, y4⟩) ?_
    simp only [pickS, List.getElem?_cons_zero, List.getElem?_cons_succ]
    refine wpSched_read (v := ?_) (by rfl) ?_ ?_
    rotate_left 1
    focus (intro w hSw; go_simp; try with_reducible rfl)
    try simp only [Act.put, List.setIfInBounds_toArray, List.set_cons_zero, List.set_cons_succ]
    refine wpSched_read (v := ?_) (by rfl) ?_ ?_
    rotate_left 1
    focus (intro w hSw; go_simp; try with_reducible rfl)
    try simp only [Act.put, List.setIfInBounds_toArray, List.set_cons_zero, List.set_cons_succ]
    refine wpSched_force (fun K hK => ?_)
    go_simp
    first | (fail) | skip
    refine hK.out _ _ (by first | exact ⟨y1, y2⟩ | exact ⟨y3, y4⟩) (fun hHeld => ?_)
    clear hHeld hK K
    try simp only [Act.put, List.setIfInBounds_toArray, List.set_cons_zero, List.set_cons_succ]
    refine wpSched_last ?_
    first | simp only [List.map_nil] | simp only [List.map_cons, List.map_nil]
    go_wp2_with fail
    refine NoPanic.normal ?_
    go_wp2_with fail
    refine leavesM_mark (by simp) hm ?_
    have C3 := (Blk.dr C1).put (o' := .deferred none) hm rfl
    have C4 := (Blk.dr C2).put (o' := .deferred none) hm rfl
    have f3 := C3.cell 0
    have f4 := C4.cell 0
    exact ⟨.tuple #[.int .i64 r.1, .bool r.2, .int .i64 0], by simp [results, Tryd.results12, go_sem, f3, f4], ret_kbe (by rw [hv.out]), bPut (bDr hb3) hD _⟩
end Go.Proofs.YtoeobcmmafncmaaDoor
