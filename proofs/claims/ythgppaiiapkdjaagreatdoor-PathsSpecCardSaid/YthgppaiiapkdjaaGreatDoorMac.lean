/-
  A region that draws its order, walked in ONE order that a schedule names: each step is either TAKEN (it may come up at any time, and hangs on no world or only on S) or FORCED (nothing else may come up).
-/
import Derived.Test.YthgppaiiapkdjaaGreatDoorMab
import Derived.Test.YthgppaiiapkdjaaGreatDoorMaa
import Derived.ProofKit
import Derived.OpenShut
import Derived.ShutString
import Derived.ChangeOld
import Derived.Below
import Derived.Deep.Slices
import Derived.Deep.Fields
namespace Go.Proofs.YthgppaiiapkdjaaGreatDoor
open Go

section
variable {P : Program} {ops : Array Oper} {Q : Exit → Act → World → Prop} {md : Region.Mode} {S : World → Prop} {f : Nat}

/-- 0: forced, S is shown behind it; 1: taken, hangs on no world; 2: taken, read under S ahead of f; 3: forced, f has come up. -/
def schedOk (md : Region.Mode) (ops : Array Oper) (f : Nat) : List (Nat × Nat) → Array Bool → Bool
  | [], listed => (Region.ready md ops listed).isEmpty
  | (k, 0) :: s, listed => decide (Region.ready md ops listed = [k]) && schedOk md ops f s (listed.setIfInBounds k true)
  | (k, 1) :: s, listed => (Region.ready md ops listed).contains k && Region.free md ops listed k && cloB md ops listed && decide (k ≠ f) && schedOk md ops f s (listed.setIfInBounds k true)
  | (k, 2) :: s, listed => (Region.ready md ops listed).contains k && Region.free md ops listed k && cloB md ops listed && decide (k ≠ f) && roadB md ops f k (findRoad md ops f 6 k) && schedOk md ops f s (listed.setIfInBounds k true)
  | (k, _) :: s, listed => decide (Region.ready md ops listed = [k]) && (listed.setIfInBounds k true).getD f true && (s.all (fun x => decide (3 ≤ x.2)) && schedOk md ops f s (listed.setIfInBounds k true))
def pickS : List (Nat × Nat) → List Oper → List (Nat × Oper)
  | [], _ => []
  | (k, t) :: s, l => match l[k]? with
    | some o => (t, o) :: pickS s l
    | none => pickS s l
def wpSched (P : Program) (ops : Array Oper) (Q : Exit → Act → World → Prop) (S : World → Prop) : List (Nat × Oper) → Act → World → Prop
  | [], a, w => Q .normal a w
  | (0, o) :: l, a, w => if Region.wanted o (yielded ops a.tmps) = true then Oper.wp P o a w (fun a' w' => S w' ∧ wpSched P ops Q S l a' w') Q else (S w ∧ wpSched P ops Q S l (a.put o.dst undef) w)
  | (1, o) :: l, a, w => ∃ v, YieldsIf P ops (fun _ => True) o v a ∧ wpSched P ops Q S l (a.put o.dst v) w
  | (2, o) :: l, a, w => ∃ v, YieldsIf P ops S o v a ∧ wpSched P ops Q S l (a.put o.dst v) w
  | (_, o) :: l, a, w => wpList P ops Q (o :: l.map (·.2)) a w

theorem ready_some {listed : Array Bool} {k : Nat} (h : k ∈ Region.ready md ops listed) : ∃ o, ops[k]? = some o := by
  obtain ⟨_, oj, hoj, _⟩ := mem_ready.1 h
  exact ⟨oj, hoj⟩
theorem sched_last : ∀ (s : List (Nat × Nat)) (listed : Array Bool) (a : Act) (w : World), s.all (fun x => decide (3 ≤ x.2)) = true → schedOk md ops f s listed = true → wpList P ops Q ((pickS s ops.toList).map (·.2)) a w → wpAnyU P md ops Q S f s.length listed a w
  | [], listed, a, w, _, hB, h => wpAnyU_done (by simpa [schedOk] using hB) (by simpa [pickS, wpList] using h) _
  | (k, 0) :: s, listed, a, w, h3, _, _ => by simp at h3
  | (k, 1) :: s, listed, a, w, h3, _, _ => by simp at h3
  | (k, 2) :: s, listed, a, w, h3, _, _ => by simp at h3
  | (k, t + 3) :: s, listed, a, w, h3, hB, h => by
    simp only [schedOk, Bool.and_eq_true, decide_eq_true_eq] at hB
    obtain ⟨⟨h1, h2⟩, h4, h5⟩ := hB
    obtain ⟨o, ho⟩ := ready_some (md := md) (ops := ops) (listed := listed) (k := k) (by rw [h1]; simp)
    have ho' : ops.toList[k]? = some o := by simpa using ho
    simp only [pickS, ho', List.map_cons] at h
    refine ⟨fun h0 => (by rw [h1] at h0; cases h0), fun j hj => ?_⟩
    rw [h1] at hj
    obtain rfl : j = k := by simpa using hj
    have hw : wpOp P ops Q j (wpList P ops Q ((pickS s ops.toList).map (·.2))) a w := by unfold wpOp; simp only [ho]; exact h
    exact wpOp_mono (fun a' w' h' => ⟨fun h0 => (by rw [h2] at h0; cases h0), sched_last s _ a' w' h4 h5 h'⟩) hw
theorem sched_any (hs : Region.noSelect ops = true) (hQ : ∀ d v c a w, Q (.panic c) (Act.put a d v) w → Q (.panic c) a w) : ∀ (s : List (Nat × Nat)) (listed : Array Bool) (a : Act) (w : World),
    schedOk md ops f s listed = true → (listed.getD f true = false → S w) → wpSched P ops Q S (pickS s ops.toList) a w → wpAnyU P md ops Q S f s.length listed a w
  | [], listed, a, w, hB, _, h => wpAnyU_done (by simpa [schedOk] using hB) h _
  | (k, 0) :: s, listed, a, w, hB, hS, h => by
    simp only [schedOk, Bool.and_eq_true, decide_eq_true_eq] at hB
    obtain ⟨o, ho⟩ := ready_some (md := md) (ops := ops) (listed := listed) (k := k) (by rw [hB.1]; simp)
    have ho' : ops.toList[k]? = some o := by simpa using ho
    simp only [pickS, ho', wpSched] at h
    refine ⟨fun h0 => (by rw [hB.1] at h0; cases h0), fun j hj => ?_⟩
    rw [hB.1] at hj
    obtain rfl : j = k := by simpa using hj
    have hw : wpOp P ops Q j (fun a' w' => S w' ∧ wpSched P ops Q S (pickS s ops.toList) a' w') a w := by
      unfold wpOp
      simp only [ho]
      split at h
      · rename_i c; rw [if_pos c]; exact .inl h
      · rename_i c; rw [if_neg c]; exact h
    exact wpOp_mono (fun a' w' h' => ⟨fun _ => h'.1, sched_any hs hQ s _ a' w' hB.2 (fun _ => h'.1) h'.2⟩) hw
  | (k, 1) :: s, listed, a, w, hB, hS, h => by
    simp only [schedOk, Bool.and_eq_true, decide_eq_true_eq] at hB
    obtain ⟨⟨⟨⟨h1, h2⟩, h3⟩, h4⟩, h5⟩ := hB
    obtain ⟨o, ho⟩ := ready_some (md := md) (ops := ops) (listed := listed) (k := k) (by simpa using h1)
    have ho' : ops.toList[k]? = some o := by simpa using ho
    simp only [pickS, ho', wpSched] at h
    obtain ⟨v, hv, h⟩ := h
    exact wpAnyU_first (T := fun _ => True) ho (Region.noSelect_spec hs) (hQ _ _) h4 (fun _ _ _ _ _ => trivial) s.length listed a w (clo_spec h3) (Region.free_spec ho h2) (by simpa using h1) hv hS
      (sched_any hs hQ s _ _ w h5 (fun hf => hS (by rw [getD_set_ne true h4] at hf; exact hf)) h)
  | (k, 2) :: s, listed, a, w, hB, hS, h => by
    simp only [schedOk, Bool.and_eq_true, decide_eq_true_eq] at hB
    obtain ⟨⟨⟨⟨⟨h1, h2⟩, h3⟩, h4⟩, h6⟩, h5⟩ := hB
    obtain ⟨o, ho⟩ := ready_some (md := md) (ops := ops) (listed := listed) (k := k) (by simpa using h1)
    have ho' : ops.toList[k]? = some o := by simpa using ho
    simp only [pickS, ho', wpSched] at h
    obtain ⟨v, hv, h⟩ := h
    exact wpAnyU_first (T := S) ho (Region.noSelect_spec hs) (hQ _ _) h4 (fun _ _ hc hu hS => hS (road_spec hc _ k h6 hu)) s.length listed a w (clo_spec h3) (Region.free_spec ho h2) (by simpa using h1) hv hS
      (sched_any hs hQ s _ _ w h5 (fun hf => hS (by rw [getD_set_ne true h4] at hf; exact hf)) h)
  | (k, t + 3) :: s, listed, a, w, hB, hS, h => by
    refine sched_last ((k, t + 3) :: s) listed a w ?_ hB ?_
    · simp only [schedOk, Bool.and_eq_true] at hB
      simp only [List.all_cons, Bool.and_eq_true, decide_eq_true_eq]
      exact ⟨by omega, hB.2.1⟩
    · simp only [schedOk, Bool.and_eq_true, decide_eq_true_eq] at hB
      obtain ⟨o, ho⟩ := ready_some (md := md) (ops := ops) (listed := listed) (k := k) (by rw [hB.1.1]; simp)
      have ho' : ops.toList[k]? = some o := by simpa using ho
      simp only [pickS, ho', wpSched] at h
      simpa only [pickS, ho', List.map_cons] using h
def scheduled (md : Region.Mode) (ops : Array Oper) (f : Nat) (s : List (Nat × Nat)) : Bool :=
  Region.noSelect ops && decide (s.length = ops.size) && schedOk md ops f s (Array.replicate ops.size false)
theorem wp_region_sched {id : Nat} {l : List Oper} {a : Act} {w : World} (S : World → Prop) (f : Nat) (s : List (Nat × Nat)) (hm : P.follows .mixedOrders = true) (hB : scheduled .any l.toArray f s = true)
    (hS : S w.drew) (h : wpSched P l.toArray (NoPanic Q) S (pickS s l) a w.drew) : (Code.region id l.toArray true).wp P Q a w := by
  simp only [scheduled, Bool.and_eq_true, decide_eq_true_eq] at hB
  obtain ⟨⟨h1, h2⟩, h3⟩ := hB
  refine wp_region_noPanic (wp_region_any hm ?_)
  have := sched_any (md := .any) (f := f) (Q := NoPanic Q) (ops := l.toArray) h1 (fun _ _ _ _ _ h => h) s _ a w.drew h3 (fun _ => hS) (by simpa using h)
  have := wpAny_of_until _ _ _ _ this
  rw [h2] at this
  exact this
theorem wpSched_take {o : Oper} {l : List (Nat × Oper)} {a : Act} {w : World} {v : Value} (hw : Region.wanted o (yielded ops a.tmps) = true) (hv : ∀ w, True → (execOp a.eval o).run P w = .ok (.value v) w)
    (h : wpSched P ops Q S l (a.put o.dst v) w) : wpSched P ops Q S ((1, o) :: l) a w := ⟨v, .inl ⟨hw, hv⟩, h⟩
theorem wpSched_read {o : Oper} {l : List (Nat × Oper)} {a : Act} {w : World} {v : Value} (hw : Region.wanted o (yielded ops a.tmps) = true) (hv : ∀ w, S w → (execOp a.eval o).run P w = .ok (.value v) w)
    (h : wpSched P ops Q S l (a.put o.dst v) w) : wpSched P ops Q S ((2, o) :: l) a w := ⟨v, .inl ⟨hw, hv⟩, h⟩
theorem wpSched_force {o : Oper} {l : List (Nat × Oper)} {a : Act} {w : World}
    (h : ∀ K' : Act → World → Prop, Shut (∀ a w, S w → (S w → wpSched P ops Q S l a w) → K' a w) → if Region.wanted o (yielded ops a.tmps) = true then Oper.wp P o a w K' Q else K' (a.put o.dst undef) w) :
    wpSched P ops Q S ((0, o) :: l) a w := h _ (fun _ _ hS hW => ⟨hS, hW hS⟩)
theorem wpSched_last {o : Oper} {l : List (Nat × Oper)} {a : Act} {w : World} (h : wpList P ops Q (o :: l.map (·.2)) a w) : wpSched P ops Q S ((3, o) :: l) a w := h
theorem wpSched_nil {a : Act} {w : World} (h : Q .normal a w) : wpSched P ops Q S [] a w := h
end
end Go.Proofs.YthgppaiiapkdjaaGreatDoor

/-
  Arguments, opened: a slice of structs or numbers as a list.
-/
namespace Go.Proofs.YthgppaiiapkdjaaGreatDoor
open Go.ChangeShapes Go.WideShapes Go.ChangeAt Go.RowKit Go.Deep

theorem own_knob : ownKnob Tryz.prog.godebug = none := by kernel_rfl
theorem laid_out : laidOutB Tryz.prog = true := by kernel_rfl

section
variable {H : Type} {enc : TypeId × Value → H} {P : Program} {w : World} {base : Nat} {spare : Nat → Bool} {held : Bool}
theorem flat_len {α : Type} {f : α → List Value} {sz : Nat} (hf : ∀ x, (f x).length = sz) : ∀ l : List α, (l.flatMap f).length = l.length * sz
  | [] => by simp
  | x :: l => by rw [List.flatMap_cons, List.length_append, hf, flat_len hf l, List.length_cons, Nat.succ_mul]; omega
theorem add_of_add (a : Addr) (i j : Nat) : (a.add i).add j = a.add (i + j) := by
  unfold Addr.add
  by_cases hi : i = 0 <;> by_cases hj : j = 0 <;> simp [hi, hj, Nat.add_assoc]
/-- A slice whose elements read as 'α', each in sz cells that are a function of it. -/
theorem open_slice_as {α : Type} {f : α → List Value} {Pr : α → Prop} {t e : TypeId} {sz fuel : Nat} {cs : List Value} {x : DataW H × List MemPlace} (ht : P.underlying t = some (.slice e)) (hsz : P.cellsOf e = sz) (hs : 0 < sz) (hf : ∀ x, (f x).length = sz)
    (hel : ∀ (n : Nat) (cs : List Value) (y : DataW H × List MemPlace), DataW.trod enc P w base spare held n e cs = some y → ∃ a, cs = f a ∧ Pr a) (h : DataW.trod enc P w base spare held fuel t cs = some x) :
    ∃ (A : Option Addr) (n c : Nat) (l : List α), cs = [.slice A n c] ∧ l.length = n ∧ n ≤ maxLen ∧ Rd w w.heap.size sz A n (l.flatMap f) ∧ ∀ y ∈ l, Pr y := by
  rcases open_slice ht h with ⟨rfl, _⟩ | ⟨a, len, cap, m, n, D, Pl, rfl, hb, hl, hm, hmm, rfl, hx⟩
  · exact ⟨none, 0, 0, [], rfl, rfl, Nat.zero_le _, Rd.nil_, fun y hy => by cases hy⟩
  · rw [hsz] at hx
    have hlm : len ≤ m := by rw [hmm]; split <;> omega
    rcases Nat.eq_zero_or_pos len with h0 | hpos
    · subst h0
      exact ⟨some a, 0, cap, [], rfl, rfl, Nat.zero_le _, ⟨by simp, fun h => absurd h (by omega)⟩, fun y hy => by cases hy⟩
    · obtain ⟨cs0, _, ht0⟩ := hx 0 (by omega)
      obtain ⟨a0, _, _⟩ := hel _ _ _ ht0
      haveI : Inhabited α := ⟨a0⟩
      obtain ⟨V, hV⟩ := choose_lt (α := α) (n := len) (p := fun i y => w.cells? base (a.add (i * sz)) sz = some (f y) ∧ Pr y) (fun i hi => by
        obtain ⟨cs', h1, h2⟩ := hx i (by omega)
        obtain ⟨y, rfl, hy⟩ := hel _ _ _ h2
        exact ⟨y, h1, hy⟩)
      refine ⟨some a, len, cap, (List.range len).map V, rfl, by simp, by omega, ⟨by rw [flat_len hf]; simp, fun _ => ?_⟩, ?_⟩
      · have hc0 : ∀ i j u, i < len → (f (V i))[j]? = some u → w.cell? (a.add (i * sz + j)) = some u := by
          intro i j u hi hu
          obtain ⟨_, hlen, hat⟩ := World.cells?_some (hV i hi).1
          have hj : j < sz := by
            have := (List.getElem?_eq_some_iff.1 hu).1
            rw [hf] at this
            exact this
          have := hat j hj
          rw [add_of_add] at this
          rw [this]; exact hu
        obtain ⟨u0, hu0⟩ : ∃ u, (f (V 0))[0]? = some u := ⟨_, List.getElem?_eq_getElem (by rw [hf]; exact hs)⟩
        have hcell := hc0 0 0 u0 hpos hu0
        obtain ⟨b, off, spot⟩ := a
        have hspot : spot = none := by simpa [Addr.add] using World.cell?_spot hcell
        subst hspot
        refine ⟨b, off, rfl, ?_, ?_⟩
        · have : (⟨b, off, none⟩ : Addr).add (0 * sz + 0) = ⟨b, off, none⟩ := by simp [Addr.add]
          rw [this] at hcell
          unfold World.cell? at hcell
          cases hh : w.heap[b]? with
          | none => simp [hh] at hcell
          | some o => exact (Array.getElem?_eq_some_iff.1 hh).1
        · intro j u hu
          have hjl : j < len * sz := by
            have := (List.getElem?_eq_some_iff.1 hu).1
            rw [flat_len hf] at this
            simpa using this
          have hi : j / sz < len := by rw [Nat.div_lt_iff_lt_mul hs]; exact hjl
          have hdm : j = j / sz * sz + j % sz := by rw [Nat.mul_comm]; exact (Nat.div_add_mod j sz).symm
          have hmod := Nat.mod_lt j hs
          rw [hdm, flat_at hf _ (j / sz) (j % sz) (V (j / sz)) (by simp [hi]) hmod] at hu
          have := hc0 (j / sz) (j % sz) u hi hu
          rw [← hdm] at this
          have ha : (⟨b, off, none⟩ : Addr).add j = ⟨b, off + j, none⟩ := by
            unfold Addr.add
            split
            · rename_i h; subst h; rfl
            · rfl
          rwa [ha] at this
      · intro y hy
        obtain ⟨i, hi, rfl⟩ := List.mem_map.1 hy
        exact (hV i (List.mem_range.1 hi)).2
def isI64 : Option TypeDesc → Bool
  | some (.int .i64) => true
  | _ => false
theorem isI64_out {o : Option TypeDesc} (h : isI64 o = true) : o = some (.int .i64) := by
  unfold isI64 at h
  split at h
  · rfl
  · cases h
def allInts (P : Program) (fs : Array Field) : Bool := (List.range fs.size).all fun i => match fs[i]? with
  | some f => f.offset == i && (P.cellsOf f.type == 1 && isI64 (P.underlying f.type))
  | none => false
/-- A struct of whole numbers. -/
theorem open_struct_ints {t : TypeId} {fs : Array Field} {fuel : Nat} {cs : List Value} {x : DataW H × List MemPlace} (ht : P.underlying t = some (.struct fs)) (hall : allInts P fs = true) (hC : P.cellsOf t = fs.size)
    (h : DataW.trod enc P w base spare held fuel t cs = some x) : ∃ zs : List Int, zs.length = fs.size ∧ cs = zs.map (Value.int .i64) ∧ ∀ z ∈ zs, (Lit.int .i64 z).wf = true := by
  obtain ⟨xs, m, _, _, hl, hxl, hf⟩ := DataW.trod_struct ht h
  rw [hC] at hl
  have hone : ∀ i, i < fs.size → ∃ z : Int, cs[i]? = some (.int .i64 z) ∧ (Lit.int .i64 z).wf = true := by
    intro i hi
    have hb := List.all_eq_true.1 hall i (List.mem_range.2 hi)
    have hfi : fs[i]? = some fs[i] := Array.getElem?_eq_getElem hi
    simp only [hfi, Bool.and_eq_true, beq_iff_eq] at hb
    obtain ⟨ho, hc, hk⟩ := hb
    have h1 := hf i _ hfi
    rw [ho, hc] at h1
    have hcs : (cs.drop i).take 1 = [cs[i]'(by omega)] := by
      rw [List.drop_eq_getElem_cons (by omega)]; rfl
    rw [hcs, List.getElem?_eq_getElem (by omega)] at h1
    obtain ⟨z, hz, _, hw⟩ := DataW.trod_int (isI64_out hk) h1
    injection hz with hz
    exact ⟨z, by rw [List.getElem?_eq_getElem (by omega), hz], hw⟩
  obtain ⟨V, hV⟩ := choose_lt (α := Int) (n := fs.size) (p := fun i z => cs[i]? = some (.int .i64 z) ∧ (Lit.int .i64 z).wf = true) hone
  refine ⟨(List.range fs.size).map V, by simp, ?_, ?_⟩
  · apply List.ext_getElem?
    intro i
    rcases Nat.lt_or_ge i fs.size with hi | hi
    · rw [(hV i hi).1]; simp [hi]
    · rw [List.getElem?_eq_none (by omega), List.getElem?_eq_none (by simpa using hi)]
  · intro z hz
    obtain ⟨i, hi, rfl⟩ := List.mem_map.1 hz
    exact (hV i (List.mem_range.1 hi)).2
theorem ints_flat (l : List Int) : l.flatMap (fun n => [Value.int .i64 n]) = ints l := by
  induction l with
  | nil => rfl
  | cons x l ih => rw [List.flatMap_cons, ih]; rfl
/-- []int. -/
theorem open_int_list {t e : TypeId} {fuel : Nat} {cs : List Value} {x : DataW H × List MemPlace} (ht : P.underlying t = some (.slice e)) (he : P.underlying e = some (.int .i64)) (hC : P.cellsOf e = 1) (h : DataW.trod enc P w base spare held fuel t cs = some x) :
    ∃ (A : Option Addr) (n c : Nat) (l : List Int), cs = [.slice A n c] ∧ l.length = n ∧ n ≤ maxLen ∧ Rd w w.heap.size 1 A n (ints l) ∧ ∀ y ∈ l, (Lit.int .i64 y).wf = true := by
  obtain ⟨A, n, c, l, h1, h2, h3, h4, h5⟩ := open_slice_as (f := fun n : Int => [Value.int .i64 n]) (Pr := fun y => (Lit.int .i64 y).wf = true) ht hC (by omega) (fun _ => rfl) (fun n cs y hy => by
    obtain ⟨v, rfl, _, hw⟩ := DataW.trod_int he hy
    exact ⟨v, rfl, hw⟩) h
  rw [ints_flat] at h4
  exact ⟨A, n, c, l, h1, h2, h3, h4, h5⟩
end

end Go.Proofs.YthgppaiiapkdjaaGreatDoor

/-
  Slices cut: their first elements, their cells, their room.
-/
namespace Go.Proofs.YthgppaiiapkdjaaGreatDoor
open Go.RowKit Go.Deep

theorem Rd.pre {w : World} {B sz n : Nat} {A : Option Addr} {xs : List Value} (h : Rd w B sz A n xs) (k : Nat) (hk : k ≤ n) : Rd w B sz A k (xs.take (k * sz)) := by
  refine ⟨?_, fun h0 => ?_⟩
  · rw [List.length_take, h.1]
    exact Nat.min_eq_left (Nat.mul_le_mul_right _ hk)
  · obtain ⟨b, off, e, hb, hc⟩ := h.2 (by omega)
    refine ⟨b, off, e, hb, fun j u hu => hc j u ?_⟩
    rw [List.getElem?_take] at hu
    split at hu
    · exact hu
    · cases hu
theorem flat_take {α : Type} {f : α → List Value} {sz : Nat} (hf : ∀ x, (f x).length = sz) : ∀ (l : List α) (k : Nat), (l.take k).flatMap f = (l.flatMap f).take (k * sz)
  | [], k => by simp
  | x :: l, 0 => by simp
  | x :: l, k + 1 => by
    rw [List.take_succ_cons, List.flatMap_cons, List.flatMap_cons, flat_take hf l k, Nat.succ_mul, List.take_append, hf]
    congr 1
    · rw [List.take_of_length_le (by rw [hf]; omega)]
    · congr 1
      omega
theorem flat_drop {α : Type} {f : α → List Value} {sz : Nat} (hf : ∀ x, (f x).length = sz) : ∀ (l : List α) (k : Nat), (l.drop k).flatMap f = (l.flatMap f).drop (k * sz)
  | [], k => by simp
  | x :: l, 0 => by simp
  | x :: l, k + 1 => by
    rw [List.drop_succ_cons, List.flatMap_cons, flat_drop hf l k, Nat.succ_mul, List.drop_append, hf]
    have e1 : (f x).drop (k * sz + sz) = [] := List.drop_of_length_le (by rw [hf]; omega)
    have e2 : k * sz + sz - sz = k * sz := by omega
    rw [e1, e2, List.nil_append]
/-- The room of a slice that came in. -/
theorem open_cap {H : Type} {enc : TypeId × Value → H} {P : Program} {w : World} {base : Nat} {spare : Nat → Bool} {held : Bool} {t e : TypeId} {fuel : Nat} {A : Option Addr} {n c : Nat} {x : DataW H × List MemPlace} (ht : P.underlying t = some (.slice e))
    (h : DataW.trod enc P w base spare held fuel t [.slice A n c] = some x) : n ≤ c ∧ c ≤ maxLen := by
  rcases open_slice ht h with ⟨he, _⟩ | ⟨a, len, cap, m, n', D, Pl, he, hb, hl, hm, hmm, rfl, hx⟩
  · injection he with he
    injection he with h1 h2 h3
    subst h2; subst h3
    exact ⟨Nat.le_refl _, Nat.zero_le _⟩
  · injection he with he
    injection he with h1 h2 h3
    subst h2; subst h3
    exact ⟨hl, hm⟩

end Go.Proofs.YthgppaiiapkdjaaGreatDoor

/-
  SHA-256: Sum, walked.
-/
namespace Go.Proofs.YthgppaiiapkdjaaGreatDoor
open Go.RowKit

theorem blocksS_add (s : S8) (L : List Nat) (m : Nat) : ∀ j, blocksS s L (m + j) = blocksS (blocksS s L m) (L.drop (64 * m)) j
  | 0 => rfl
  | j + 1 => by
    show blockS (blocksS s L (m + j)) ((L.drop (64 * (m + j))).take 64) = blockS (blocksS (blocksS s L m) (L.drop (64 * m)) j) (((L.drop (64 * m)).drop (64 * j)).take 64)
    rw [blocksS_add s L m j, List.drop_drop, Nat.mul_add]
theorem blocksS_pre (s : S8) (l p : List Nat) : ∀ m, 64 * m ≤ l.length → blocksS s (l ++ p) m = blocksS s l m
  | 0, _ => rfl
  | m + 1, h => by
    show blockS (blocksS s (l ++ p) m) (((l ++ p).drop (64 * m)).take 64) = blockS (blocksS s l m) ((l.drop (64 * m)).take 64)
    rw [blocksS_pre s l p m (by omega), List.drop_append_of_le_length (by omega), List.take_append_of_le_length (by rw [List.length_drop]; omega)]
theorem bytesN_lt (n : Nat) : ∀ k, ∀ x ∈ bytesN n k, x < 256
  | 0, x, h => by cases h
  | k + 1, x, h => by
    rcases List.mem_append.1 h with h | h
    · exact bytesN_lt (n / 256) k x h
    · rw [List.mem_singleton.1 h]; exact Nat.mod_lt _ (by decide)
theorem padN_len (n : Nat) : (padN n).length = 9 + (119 - n % 64) % 64 := by
  unfold padN; simp [bytesN_len]; omega
/-- The end of a text: what is left of it behind its whole blocks, and what is added. -/
def endN (l : List Nat) : List Nat := l.drop (64 * (l.length / 64)) ++ padN l.length
theorem shaN_end (l : List Nat) : shaN l = (blocksS (blocksS shaS l (l.length / 64)) (endN l) (if l.length % 64 ≤ 55 then 1 else 2)).list.flatMap fun v => bytesN v 4 := by
  unfold shaN
  have e : (l.length + 72) / 64 = l.length / 64 + (if l.length % 64 ≤ 55 then 1 else 2) := by split <;> omega
  rw [e, blocksS_add, blocksS_pre _ _ _ _ (by omega), List.drop_append_of_le_length (by omega)]
  rfl
theorem okB_pad (n : Nat) : okB (padN n) := by
  intro x hx
  unfold padN at hx
  simp only [List.mem_cons, List.mem_append, List.mem_replicate] at hx
  rcases hx with rfl | ⟨_, rfl⟩ | hx
  · decide
  · decide
  · exact bytesN_lt _ 8 x hx
theorem okB_app {a b : List Nat} (ha : okB a) (hb : okB b) : okB (a ++ b) := fun x hx => by
  rw [List.mem_append] at hx
  exact hx.elim (ha x) (hb x)
theorem okB_take {l : List Nat} (h : okB l) (k : Nat) : okB (l.take k) := fun x hx => h x (List.mem_of_mem_take hx)

def zerosN (k : Nat) : List Nat := List.replicate k 0
theorem zerosN_len (k : Nat) : (zerosN k).length = k := by simp [zerosN]
theorem zerosN_add (a b : Nat) : zerosN (a + b) = zerosN a ++ zerosN b := by simp [zerosN]
theorem make_end (w : World) : (Instr.makeSlice 128 (.int .i64 64) (.int .i64 128)).run Tryz.prog w = .ok (.slice (some ⟨w.heap.size, 0, none⟩) 64 128) (w.alloc (.cells (byts (zerosN 128)).toArray 5)) := by kernel_rfl

theorem splice_zero {rest : List Nat} : splice (byts (zerosN 128)) 0 (byts rest) = byts (rest ++ zerosN (128 - rest.length)) := by
  unfold splice byts
  rw [List.take_zero, List.nil_append, List.map_append, Nat.zero_add, List.length_map, ← List.map_drop]
  congr 2
  unfold zerosN
  rw [List.drop_replicate]
theorem set_zero {rest : List Nat} {n : Nat} (h : rest.length = n) (h2 : n < 128) : (byts (rest ++ zerosN (128 - n))).set n (.int .u8 128) = byts (rest ++ 128 :: zerosN (127 - n)) := by
  subst h
  have e : 128 - rest.length = (127 - rest.length) + 1 := by omega
  rw [e]
  unfold byts zerosN
  rw [List.replicate_succ, List.map_append, List.set_append_right _ _ (by simp)]
  simp
/-- The end of a text, as it is laid in a row of 128 bytes. -/
theorem endN_form {l rest : List Nat} {r n : Nat} (h : rest = l.drop (64 * (l.length / 64))) (hr : rest.length = r) (hr2 : r = l.length % 64) (hn : l.length = n) :
    Hid (endN l = rest ++ 128 :: (zerosN (if r ≤ 55 then 55 - r else 119 - r) ++ bytesN (n * 8 % 18446744073709551616) 8)) := by
  show _ = _
  unfold endN padN
  rw [← h, ← hr2, hn]
  have : (119 - r) % 64 = if r ≤ 55 then 55 - r else 119 - r := by
    have : r < 64 := by omega
    split <;> omega
  rw [this]; rfl

theorem row_form {rest : List Nat} {a z p : Nat} (h : a = z + 8 + p) : Hid (byts (rest ++ 128 :: zerosN a) = byts (rest ++ 128 :: zerosN z) ++ byts (zerosN 8) ++ byts (zerosN p)) := by
  show _ = _
  subst h
  rw [zerosN_add, zerosN_add]
  simp [byts]

theorem rd_of_blk {w : World} {g off k : Nat} {t : TypeId} {E : List Nat} {p : List Nat} (h : Blk w g t (byts (E ++ p)).toArray) (hk : off + k ≤ E.length) : Rd w w.heap.size 1 (some ⟨g, off, none⟩) k (byts ((E.drop off).take k)) := by
  refine ⟨by rw [byts_length, List.length_take, List.length_drop]; omega, fun _ => ⟨g, off, rfl, h.lt, fun j u hu => ?_⟩⟩
  have hj : j < k := by
    have := (List.getElem?_eq_some_iff.1 hu).1
    rw [byts_length, List.length_take] at this; omega
  rw [h.cell]
  simp only [List.getElem?_toArray]
  unfold byts at hu ⊢
  rw [List.getElem?_map] at hu ⊢
  rw [List.getElem?_take, if_pos hj, List.getElem?_drop] at hu
  rw [List.getElem?_append_left (by omega)]
  exact hu

theorem idx_state (s : S8) (ho : s.ok) (t : Nat) (ht : t < 8) : ∃ v, s.list[t]? = some v ∧ v < 4294967296 ∧ ∀ w : World, (Instr.index 157 (.agg #[.int .u32 s.a, .int .u32 s.b, .int .u32 s.c, .int .u32 s.d, .int .u32 s.e, .int .u32 s.f, .int .u32 s.g, .int .u32 s.h]) (.int .i64 t)).run Tryz.prog w = .ok (.int .u32 (v : Nat)) w := by
  have h8 : t = 0 ∨ t = 1 ∨ t = 2 ∨ t = 3 ∨ t = 4 ∨ t = 5 ∨ t = 6 ∨ t = 7 := by omega
  obtain ⟨o0, o1, o2, o3, o4, o5, o6, o7⟩ := ho
  rcases h8 with rfl | rfl | rfl | rfl | rfl | rfl | rfl | rfl <;> exact ⟨_, rfl, by assumption, fun w => by kernel_rfl⟩
theorem dig_row {l : List Nat} {t v : Nat} (hv : l[t]? = some v) (ht : t < 8) :
    Hid (byts ((l.take t).flatMap (fun v => bytesN v 4) ++ zerosN (32 - 4 * t)) = byts ((l.take t).flatMap fun v => bytesN v 4) ++ byts (zerosN 4) ++ byts (zerosN (28 - 4 * t)) ∧
      byts ((l.take t).flatMap fun v => bytesN v 4) ++ byts (bytesN v 4) ++ byts (zerosN (28 - 4 * t)) = byts ((l.take (t + 1)).flatMap (fun v => bytesN v 4) ++ zerosN (32 - 4 * (t + 1)))) := by
  obtain ⟨hk, rfl⟩ := List.getElem?_eq_some_iff.1 hv
  refine ⟨?_, ?_⟩
  · have e : 32 - 4 * t = 4 + (28 - 4 * t) := by omega
    rw [e, zerosN_add]
    simp [byts]
  · have e : 32 - 4 * (t + 1) = 28 - 4 * t := by omega
    rw [e, List.take_succ_eq_append_getElem hk, List.flatMap_append]
    simp [byts]
theorem slice_dig (g t : Nat) (ht : t < 8) (w : World) : (Instr.sliceAt 54 (.pointer (some ⟨g, 0, none⟩)) (some (.int .i64 (4 * (t : Int)))) (some (.int .i64 (4 * (t : Int) + 4))) none).run Tryz.prog w = .ok (.slice (some ⟨g, 4 * t, none⟩) 4 (32 - 4 * t)) w := by
  have h8 : t = 0 ∨ t = 1 ∨ t = 2 ∨ t = 3 ∨ t = 4 ∨ t = 5 ∨ t = 6 ∨ t = 7 := by omega
  rcases h8 with rfl | rfl | rfl | rfl | rfl | rfl | rfl | rfl <;> (show Sem.run _ _ _ = _; kernel_rfl)

theorem dig_under : Tryz.prog.underlying 54 = some (.array 32 5) := by kernel_rfl
theorem dig_info : (Tryz.prog.info? 54).map (·.size) = some 32 := by kernel_rfl
theorem byts_one (l : List Nat) : (byts l).toArray.all (·.oneCell') = true := by
  rw [Array.all_eq_true_iff_forall_mem]
  intro v hv
  rw [List.mem_toArray] at hv
  obtain ⟨x, _, rfl⟩ := List.mem_map.1 hv
  rfl

set_option maxRecDepth 100000 in
set_option maxHeartbeats 12000000 in
theorem sum_any (A : Option Addr) (n c : Nat) (l : List Nat) (W : World) (hA : Rd W W.heap.size 1 A n (byts l)) (ho : okB l) (hc : n ≤ c) (hc2 : c ≤ 9223372036854775807) (hG : ShaG W) :
    Calls Tryz.prog 90 #[.slice A n c] W (Ret (.agg (byts (shaN l)).toArray) W) := by
  have hl : Hid (l.length = n) := by have := hA.1; rw [byts_length, Nat.mul_one] at this; exact this
  have g0 := hG.2.1 0 shaS.a rfl
  have g1 := hG.2.1 1 shaS.b rfl
  have g2 := hG.2.1 2 shaS.c rfl
  have g3 := hG.2.1 3 shaS.d rfl
  have g4 := hG.2.1 4 shaS.e rfl
  have g5 := hG.2.1 5 shaS.f rfl
  have g6 := hG.2.1 6 shaS.g rfl
  have g7 := hG.2.1 7 shaS.h rfl
  have gw := hG.2.2.2
  go_enter Tryz.func90, Tryz.ntmps90
  go_wp2_with fail
  clear g0 g1 g2 g3 g4 g5 g6 g7
  change Code.wp _ _ _ _ ((W.alloc (.cells (byts (List.replicate 32 0)).toArray 54)).alloc (.cells (u32s shaS.list).toArray 157))
  have BD := (Blk.new W 54 (byts (List.replicate 32 0)).toArray _ rfl).alloc (.cells (u32s shaS.list).toArray 157)
  have BS := Blk.new (W.alloc (.cells (byts (List.replicate 32 0)).toArray 54)) 157 (u32s shaS.list).toArray (W.heap.size + 1) (by simp)
  have hb := bAl (bAl (bRefl W) (.cells (byts (List.replicate 32 0)).toArray 54)) (.cells (u32s shaS.list).toArray 157)
  generalize (W.alloc (.cells (byts (List.replicate 32 0)).toArray 54)).alloc (.cells (u32s shaS.list).toArray 157) = w1 at *
  go_loopw [5] (fun v wr => ∃ (k : Nat) (A' : Option Addr) (n' c' : Nat), v = .slice A' n' c' ∧ Below W.heap.size W wr ∧ Blk wr W.heap.size 54 (byts (List.replicate 32 0)).toArray ∧ Blk wr (W.heap.size + 1) 157 (u32s (blocksS shaS l k).list).toArray ∧ Rd wr W.heap.size 1 A' n' (byts (l.drop (64 * k))) ∧ n' ≤ c' ∧ c' ≤ c ∧ Hid (64 * k + n' = n)) (fun v _ => match v with | .slice _ m _ => m | _ => 0)
  case atStart => exact ⟨0, _, _, _, rfl, hb, BD, BS, hA.below hb, hc, Nat.le_refl _, by show 64 * 0 + n = n; omega⟩
  case round =>
    clear hb BD BS
    obtain ⟨k, A', n', c', rfl, hb, BD, BS, hR, hn', hcc, hkn⟩ := hrel
    by_cases hlt : 64 ≤ n'
    · have hA64 : Rd wr wr.heap.size 1 A' 64 (byts ((l.drop (64 * k)).take 64)) := by
        have h := (hR.more hb.size).pre 64 hlt
        rw [Nat.mul_one] at h
        have e : byts ((l.drop (64 * k)).take 64) = (byts (l.drop (64 * k))).take 64 := by simp [byts]
        rw [e]; exact h
      obtain ⟨b, off, rfl, hbb, _⟩ := hR.2 (by omega)
      have q := absorb_any (W.heap.size + 1) c' (some ⟨b, off, none⟩) (blocksS shaS l k) _ wr BS (blocksS_ok shaS_ok k) hA64 (okB_take (okB_drop ho _) 64) (by omega) (by omega) (hG.below hb)
      clear hA64
      go_wp2_with fail
      refine q.mono ?_
      rintro e w2 ⟨rfl, hg2, BS2⟩
      clear q
      have hb2 := hb.grown hg2 hb.size (fun q e => by cases e; omega)
      have BD2 : Blk w2 W.heap.size 54 (byts (List.replicate 32 0)).toArray := (hg2.block _ BD.lt (by simp)).trans BD
      have hR2 : Rd w2 W.heap.size 1 (some ⟨b, off, none⟩) n' (byts (l.drop (64 * k))) := hR.keep fun p hp => World.cell?_of_block (hg2.block _ (Nat.lt_of_lt_of_le hp hb.size) (by intro e; injection e with e; omega))
      have hdr : Hid (byts (l.drop (64 * (k + 1))) = (byts (l.drop (64 * k))).drop (64 * 1)) := by show _ = _; simp [byts, List.drop_drop, Nat.mul_add]
      clear hb BD BS hR hg2
      by_cases hcap : c' = 64
      · have hn64 : n' = 64 := by omega
        subst hcap
        subst hn64
        go_wp2_with fail
        go_roundw
        case rel => exact ⟨k + 1, _, 0, 0, rfl, hb2, BD2, BS2, ⟨by rw [byts_length, List.length_drop, hl.out]; have := hkn.out; omega, fun h => absurd h (by omega)⟩, by omega, by omega, by have := hkn.out; show _ = _; omega⟩
        case measure => show 0 < 64; omega
      · go_wp2_with fail
        go_roundw
        case rel => exact ⟨k + 1, some ⟨b, off + 64 * 1, none⟩, n' - 64, c' - 64, rfl, hb2, BD2, BS2, by rw [hdr.out]; exact hR2.cut 64 hlt, by omega, by omega, by have := hkn.out; show _ = _; omega⟩
        case measure => show n' - 64 < n'; omega
    · have hn64 : n' < 64 := by omega
      have hend : Hid (byts (l.drop (64 * k)) = byts (l.drop (64 * (l.length / 64))) ∧ k = l.length / 64 ∧ n' = l.length % 64) := by
        have h := hkn.out
        rw [← hl.out] at h
        have e : k = l.length / 64 := by omega
        exact ⟨by rw [← e], e, by omega⟩
      have hmk := make_end
      go_upto_region 8 with fail
      have BE := Blk.new wr 5 (byts (zerosN 128)).toArray _ rfl
      have hb2 := bAl hb (.cells (byts (zerosN 128)).toArray 5)
      have BD2 := BD.alloc (.cells (byts (zerosN 128)).toArray 5)
      have BS2 := BS.alloc (.cells (byts (zerosN 128)).toArray 5)
      have hwe : W.heap.size + 1 < wr.heap.size := BS.lt
      have hR2 := hR.alloc hb.size (.cells (byts (zerosN 128)).toArray 5)
      clear hb BD BS hR hmk
      generalize wr.alloc (.cells (byts (zerosN 128)).toArray 5) = w2 at *
      generalize wr.heap.size = we at *
      rw [hend.out.1] at hR2
      obtain ⟨rest, hrest⟩ : ∃ rest, Hid (rest = l.drop (64 * (l.length / 64))) := ⟨_, Lib.hid rfl⟩
      rw [← hrest.out] at hR2
      have hrl : Hid (rest.length = n') := by have := hR2.1; rw [byts_length, Nat.mul_one] at this; exact this
      apply wp_region_lit
      iterate 6 go_step
      refine wpList_copy_splice rfl (.tmp 22) (.tmp 23) 128 128 rfl 5 Tryz.underlying128 (by kernel_rfl) _ _ _ _ _ _ rfl rfl we 0 (byts (zerosN 128)) 5 BE (byts rest) ?c1 ?c2 ?c3 ?c4 we w2 (Below.refl _ _) (Nat.le_refl _) ?_
      case c1 => rw [byts_length, hrl.out]; exact (Nat.min_eq_left (by omega)).symm
      case c2 =>
        intro h0
        obtain ⟨b, off, rfl, hbb, hcc2⟩ := hR2.2 (by rw [byts_length, hrl.out] at h0; exact h0)
        refine ⟨rfl, _, rfl, fun j v hj => ?_⟩
        have ha : (⟨b, off, none⟩ : Addr).add j = ⟨b, off + j, none⟩ := by
          unfold Addr.add
          split
          · rename_i h; rw [h]; rfl
          · rfl
        rw [ha]
        exact hcc2 j v hj
      case c3 => rw [byts_length, byts_length, hrl.out, zerosN_len]; omega
      case c4 => intro v hv; obtain ⟨x, _, rfl⟩ := List.mem_map.1 hv; rfl
      intro w3 H3 hb3
      have BE3 : Blk w3 we 5 (byts (rest ++ zerosN (128 - n'))).toArray := by
        have h := H3.out
        rw [splice_zero, hrl.out] at h
        exact h
      have hweW : W.heap.size ≤ we := by omega
      have hb4 : Below W.heap.size W w3 := hb2.trans (hb3.mono hweW)
      have BD3 : Blk w3 W.heap.size 54 (byts (List.replicate 32 0)).toArray := BD2.below hb3 (by omega)
      have BS3 : Blk w3 (W.heap.size + 1) 157 (u32s (blocksS shaS l k).list).toArray := BS2.below hb3 (by omega)
      clear BE H3 hb2 hb3 BD2 BS2 hR2
      obtain ⟨v0, hv0⟩ : ∃ v, w3.cell? ⟨we, n', none⟩ = some v := by
        rw [BE3.cell]
        simp only [List.getElem?_toArray]
        exact ⟨_, List.getElem?_eq_getElem (by rw [byts_length, List.length_append, zerosN_len, hrl.out]; omega)⟩
      have hz0 := BE3.frozen n'
      have BE4 := BE3.set_ n' (.int .u8 128)
      rw [List.setIfInBounds_toArray, set_zero hrl.out (by omega)] at BE4
      have hb5 := bSet hb4 (p := ⟨we, n', none⟩) hweW (.int .u8 128)
      have BD4 := BD3.far (p := ⟨we, n', none⟩) (by show W.heap.size ≠ we; omega) (.int .u8 128)
      have BS4 := BS3.far (p := ⟨we, n', none⟩) (by show W.heap.size + 1 ≠ we; omega) (.int .u8 128)
      clear BE3 hb4 BD3 BS3
      have ZR := endN_form hrest.out hrl.out hend.out.2.2 hl.out
      have hu : IntKind.u64.wrap ((n : Int) * 8) = ((n * 8 % 18446744073709551616 : Nat) : Int) := by rw [IntKind.wrap_u64]; omega
      have HU := Lib.hid hu
      clear hu
      by_cases h55 : n' ≤ 55
      · have h55' : decide ((55 : Int) < (n' : Int)) = false := by simp; omega
        have hp : Hid (byts (rest ++ 128 :: zerosN (127 - n')) = byts (rest ++ 128 :: zerosN (55 - n')) ++ byts (zerosN 8) ++ byts (zerosN 64)) := row_form (by omega)
        have hZ : Hid (endN l = (rest ++ 128 :: zerosN (55 - n')) ++ bytesN (n * 8 % 18446744073709551616) 8) := by show _ = _; rw [ZR.out, if_pos h55]; simp
        have hL : Hid ((endN l).length = 64) := by show _ = _; rw [hZ.out]; simp [bytesN_len, zerosN_len, hrl.out]; omega
        have hS : Hid (shaN l = (blocksS (blocksS shaS l k) (endN l) 1).list.flatMap fun v => bytesN v 4) := by
          show _ = _
          rw [shaN_end, ← hend.out.2.1, ← hend.out.2.2, if_pos h55]
        rw [hp.out] at BE4
        clear ZR
        go_wp2_with fail
        rw [HU.out]
        clear hv0 hz0
        generalize w3.setCell ⟨we, n', none⟩ (.int .u8 128) = w4 at *
        have hlp : (byts (rest ++ 128 :: zerosN (55 - n'))).length = 56 := by simp [byts_length, zerosN_len, hrl.out]; omega
        refine (put_any we 56 8 72 _ 5 _ (byts (zerosN 8)) (byts (zerosN 64)) w4 BE4 hlp rfl (by omega)).mono ?_
        rintro e w5 ⟨rfl, hg5, BE5⟩
        have BE6 : Blk w5 we 5 (byts (endN l ++ zerosN 64)).toArray := by
          rw [hZ.out]
          simpa [byts] using BE5
        have hg5W : ∀ q, some we = some q → W.heap.size ≤ q := fun q e => by cases e; exact hweW
        have hb6 := hb5.grown hg5 hb5.size hg5W
        have BD6 : Blk w5 W.heap.size 54 (byts (List.replicate 32 0)).toArray := (hg5.block _ BD4.lt (by intro e; injection e with e; omega)).trans BD4
        have BS6 : Blk w5 (W.heap.size + 1) 157 (u32s (blocksS shaS l k).list).toArray := (hg5.block _ BS4.lt (by intro e; injection e with e; omega)).trans BS4
        clear BE4 BE5 hb5 BD4 BS4 hg5 hg5W HU
        obtain ⟨s0, hs0⟩ : ∃ s0, Hid (s0 = blocksS shaS l k) := ⟨_, Lib.hid rfl⟩
        have hs0k : s0.ok := by rw [hs0.out]; exact blocksS_ok shaS_ok k
        rw [← hs0.out] at BS6 hS
        have hoE : okB (endN l) := okB_app (okB_drop ho _) (okB_pad _)
        obtain ⟨E, hE⟩ : ∃ E, Hid (E = endN l) := ⟨_, Lib.hid rfl⟩
        rw [← hE.out] at BE6 hL hS hoE
        go_wp2_with fail
        go_loopw [6] (fun v wr => ∃ (j : Nat) (A' : Option Addr) (m c' : Nat), v = .slice A' m c' ∧ (0 < m → A' = some ⟨we, 64 * j, none⟩) ∧ Below W.heap.size W wr ∧ Blk wr W.heap.size 54 (byts (List.replicate 32 0)).toArray ∧ Blk wr (W.heap.size + 1) 157 (u32s (blocksS s0 E j).list).toArray ∧ Blk wr we 5 (byts (E ++ zerosN 64)).toArray ∧ m ≤ c' ∧ c' ≤ 128 ∧ Hid (64 * j + m = 64)) (fun v _ => match v with | .slice _ m _ => m | _ => 0)
        case atStart => exact ⟨0, _, _, _, rfl, fun _ => rfl, hb6, BD6, BS6, BE6, by omega, by omega, by show _ = _; omega⟩
        case round =>
          clear hb6 BD6 BS6 BE6
          obtain ⟨j, A2, m, c2, rfl, hA2, hb, BD, BS, BE, hmc, hc128, hjm⟩ := hrel
          by_cases hm : 0 < m
          · have hm64 : 64 ≤ m := by have := hjm.out; omega
            obtain rfl := hA2 hm
            have hR : Rd wr wr.heap.size 1 (some ⟨we, 64 * j, none⟩) 64 (byts ((E.drop (64 * j)).take 64)) := rd_of_blk BE (by have := hjm.out; rw [hL.out]; omega)
            have q := absorb_any (W.heap.size + 1) c2 (some ⟨we, 64 * j, none⟩) (blocksS s0 E j) _ wr BS (blocksS_ok hs0k j) hR (okB_take (okB_drop hoE _) 64) (by omega) (by omega) (hG.below hb)
            clear hR hA2
            go_wp2_with fail
            refine q.mono ?_
            rintro e w6 ⟨rfl, hg6, BS7⟩
            clear q
            have hb7 := hb.grown hg6 hb.size (fun q e => by cases e; omega)
            have BD7 : Blk w6 W.heap.size 54 (byts (List.replicate 32 0)).toArray := (hg6.block _ BD.lt (by simp)).trans BD
            have BE7 : Blk w6 we 5 (byts (E ++ zerosN 64)).toArray := (hg6.block _ BE.lt (by intro e; injection e with e; omega)).trans BE
            clear hb BD BS BE hg6
            by_cases hcap : c2 = 64
            · have hn64 : m = 64 := by omega
              subst hcap
              subst hn64
              go_wp2_with fail
              go_roundw
              case rel => exact ⟨j + 1, _, 0, 0, rfl, fun h => absurd h (by omega), hb7, BD7, BS7, BE7, by omega, by omega, by have := hjm.out; show _ = _; omega⟩
              case measure => show 0 < 64; omega
            · go_wp2_with fail
              go_roundw
              case rel => exact ⟨j + 1, some ⟨we, 64 * j + 64, none⟩, m - 64, c2 - 64, rfl, fun _ => by rw [Nat.mul_add], hb7, BD7, BS7, BE7, by omega, by omega, by have := hjm.out; show _ = _; omega⟩
              case measure => show m - 64 < m; omega
          · have hj : j = 1 := by have := hjm.out; omega
            rw [hj] at BS
            obtain ⟨st, hst⟩ : ∃ st, Hid (st = blocksS s0 E 1) := ⟨_, Lib.hid rfl⟩
            rw [← hst.out] at BS hS
            obtain ⟨q0, q1, q2, q3, q4, q5, q6, q7⟩ := st_cells BS
            have hso : st.ok := by rw [hst.out]; exact blocksS_ok hs0k _
            clear hj hjm hA2 BE
            go_wp2_with fail
            clear q0 q1 q2 q3 q4 q5 q6 q7 BS
            go_loopw [54] (fun i wr => ∃ t : Nat, t ≤ 8 ∧ i = .int .i64 t ∧ Below W.heap.size W wr ∧ Blk wr W.heap.size 54 (byts ((st.list.take t).flatMap (fun v => bytesN v 4) ++ zerosN (32 - 4 * t))).toArray) (fun i _ => 8 - (intOf i).toNat)
            case atStart => exact ⟨0, by omega, rfl, hb, BD⟩
            case round =>
              clear hb BD
              obtain ⟨t, ht8, rfl, hb, BD⟩ := hrel
              by_cases hlt : t < 8
              · obtain ⟨v, hv, hv32, hidx⟩ := idx_state st hso t hlt
                have hrow := dig_row (l := st.list) (v := v) hv (by show t < 8; exact hlt)
                have BD2 := BD
                rw [hrow.out.1] at BD2
                have it : (t : Int) < 8 := by omega
                have hpl : Hid ((byts ((st.list.take t).flatMap fun v => bytesN v 4)).length = 4 * t) := by show _ = _; rw [byts_length, flat4_len, List.length_take]; show 4 * min t 8 = 4 * t; omega
                have hsl := slice_dig W.heap.size t hlt
                have hH := Lib.hid hrow.out.2
                clear hrow
                go_wp2_with fail
                refine (put_any W.heap.size (4 * t) 4 (32 - 4 * t) v 54 _ (byts (zerosN 4)) (byts (zerosN (28 - 4 * t))) wr BD2 hpl.out rfl (by omega)).mono ?_
                rintro e w6 ⟨rfl, hg6, BD6⟩
                have BD7 : Blk w6 W.heap.size 54 (byts ((st.list.take (t + 1)).flatMap (fun v => bytesN v 4) ++ zerosN (32 - 4 * (t + 1)))).toArray := by
                  rw [← hH.out]; exact BD6
                have hb7 := hb.grown hg6 hb.size (fun q e => by cases e; omega)
                clear hb BD BD2 BD6 hg6
                go_wp2_with fail
                go_roundw
                case rel => exact ⟨t + 1, by omega, by go_num, hb7, BD7⟩
                case measure => simp [intOf]; omega
              · have ht : t = 8 := by omega
                have BD8 : Blk wr W.heap.size 54 (byts (shaN l)).toArray := by
                  rw [ht] at BD
                  rw [hS.out]
                  simpa [zerosN, S8.list] using BD
                clear ht BD
                go_upto_region 21 with fail
                apply wp_region_lit
                refine wpList_load_row rfl 54 (.tmp 2) rfl W.heap.size rfl 54 (byts (shaN l)).toArray (0, 0) _ BD8 dig_under rfl (by rw [List.size_toArray, byts_length, shaN_len]; exact dig_info) ?_
                refine wpList_store_row rfl 54 (.tmp 2) (.tmp 68) rfl W.heap.size (byts (shaN l)).toArray rfl rfl 54 _ BD8 (by rw [List.size_toArray, byts_length, shaN_len]; exact dig_info) rfl (byts_one _) ?_
                have hb9 := below_setRow hb (Nat.le_refl _) (byts (shaN l)).toArray
                have BD9 : Blk (wr.setRow W.heap.size (byts (shaN l)).toArray) W.heap.size 54 (byts (shaN l)).toArray := setRow_heap wr W.heap.size _ _ 54 _ BD8
                go_wp2_with fail
                exact bodyPost_ret (v := .agg (byts (shaN l)).toArray) (results_cell_row rfl _ _ W.heap.size 54 _ (0, 0) _ rfl BD9 dig_under rfl (by rw [List.size_toArray, byts_length, shaN_len]; exact dig_info)) rfl ⟨rfl, hb9⟩
      · have h55' : decide ((55 : Int) < (n' : Int)) = true := by simp; omega
        have hp : Hid (byts (rest ++ 128 :: zerosN (127 - n')) = byts (rest ++ 128 :: zerosN (119 - n')) ++ byts (zerosN 8) ++ byts (zerosN 0)) := row_form (by omega)
        have hZ : Hid (endN l = (rest ++ 128 :: zerosN (119 - n')) ++ bytesN (n * 8 % 18446744073709551616) 8) := by show _ = _; rw [ZR.out, if_neg h55]; simp
        have hL : Hid ((endN l).length = 128) := by show _ = _; rw [hZ.out]; simp [bytesN_len, zerosN_len, hrl.out]; omega
        have hS : Hid (shaN l = (blocksS (blocksS shaS l k) (endN l) 2).list.flatMap fun v => bytesN v 4) := by
          show _ = _
          rw [shaN_end, ← hend.out.2.1, ← hend.out.2.2, if_neg h55]
        rw [hp.out] at BE4
        clear ZR
        go_wp2_with fail
        rw [HU.out]
        clear hv0 hz0
        generalize w3.setCell ⟨we, n', none⟩ (.int .u8 128) = w4 at *
        have hlp : (byts (rest ++ 128 :: zerosN (119 - n'))).length = 120 := by simp [byts_length, zerosN_len, hrl.out]; omega
        refine (put_any we 120 8 8 _ 5 _ (byts (zerosN 8)) (byts (zerosN 0)) w4 BE4 hlp rfl (by omega)).mono ?_
        rintro e w5 ⟨rfl, hg5, BE5⟩
        have BE6 : Blk w5 we 5 (byts (endN l ++ zerosN 0)).toArray := by
          rw [hZ.out]
          simpa [byts] using BE5
        have hg5W : ∀ q, some we = some q → W.heap.size ≤ q := fun q e => by cases e; exact hweW
        have hb6 := hb5.grown hg5 hb5.size hg5W
        have BD6 : Blk w5 W.heap.size 54 (byts (List.replicate 32 0)).toArray := (hg5.block _ BD4.lt (by intro e; injection e with e; omega)).trans BD4
        have BS6 : Blk w5 (W.heap.size + 1) 157 (u32s (blocksS shaS l k).list).toArray := (hg5.block _ BS4.lt (by intro e; injection e with e; omega)).trans BS4
        clear BE4 BE5 hb5 BD4 BS4 hg5 hg5W HU
        obtain ⟨s0, hs0⟩ : ∃ s0, Hid (s0 = blocksS shaS l k) := ⟨_, Lib.hid rfl⟩
        have hs0k : s0.ok := by rw [hs0.out]; exact blocksS_ok shaS_ok k
        rw [← hs0.out] at BS6 hS
        have hoE : okB (endN l) := okB_app (okB_drop ho _) (okB_pad _)
        obtain ⟨E, hE⟩ : ∃ E, Hid (E = endN l) := ⟨_, Lib.hid rfl⟩
        rw [← hE.out] at BE6 hL hS hoE
        go_wp2_with fail
        go_loopw [6] (fun v wr => ∃ (j : Nat) (A' : Option Addr) (m c' : Nat), v = .slice A' m c' ∧ (0 < m → A' = some ⟨we, 64 * j, none⟩) ∧ Below W.heap.size W wr ∧ Blk wr W.heap.size 54 (byts (List.replicate 32 0)).toArray ∧ Blk wr (W.heap.size + 1) 157 (u32s (blocksS s0 E j).list).toArray ∧ Blk wr we 5 (byts (E ++ zerosN 0)).toArray ∧ m ≤ c' ∧ c' ≤ 128 ∧ Hid (64 * j + m = 128)) (fun v _ => match v with | .slice _ m _ => m | _ => 0)
        case atStart => exact ⟨0, _, _, _, rfl, fun _ => rfl, hb6, BD6, BS6, BE6, by omega, by omega, by show _ = _; omega⟩
        case round =>
          clear hb6 BD6 BS6 BE6
          obtain ⟨j, A2, m, c2, rfl, hA2, hb, BD, BS, BE, hmc, hc128, hjm⟩ := hrel
          by_cases hm : 0 < m
          · have hm64 : 64 ≤ m := by have := hjm.out; omega
            obtain rfl := hA2 hm
            have hR : Rd wr wr.heap.size 1 (some ⟨we, 64 * j, none⟩) 64 (byts ((E.drop (64 * j)).take 64)) := rd_of_blk BE (by have := hjm.out; rw [hL.out]; omega)
            have q := absorb_any (W.heap.size + 1) c2 (some ⟨we, 64 * j, none⟩) (blocksS s0 E j) _ wr BS (blocksS_ok hs0k j) hR (okB_take (okB_drop hoE _) 64) (by omega) (by omega) (hG.below hb)
            clear hR hA2
            go_wp2_with fail
            refine q.mono ?_
            rintro e w6 ⟨rfl, hg6, BS7⟩
            clear q
            have hb7 := hb.grown hg6 hb.size (fun q e => by cases e; omega)
            have BD7 : Blk w6 W.heap.size 54 (byts (List.replicate 32 0)).toArray := (hg6.block _ BD.lt (by simp)).trans BD
            have BE7 : Blk w6 we 5 (byts (E ++ zerosN 0)).toArray := (hg6.block _ BE.lt (by intro e; injection e with e; omega)).trans BE
            clear hb BD BS BE hg6
            by_cases hcap : c2 = 64
            · have hn64 : m = 64 := by omega
              subst hcap
              subst hn64
              go_wp2_with fail
              go_roundw
              case rel => exact ⟨j + 1, _, 0, 0, rfl, fun h => absurd h (by omega), hb7, BD7, BS7, BE7, by omega, by omega, by have := hjm.out; show _ = _; omega⟩
              case measure => show 0 < 64; omega
            · go_wp2_with fail
              go_roundw
              case rel => exact ⟨j + 1, some ⟨we, 64 * j + 64, none⟩, m - 64, c2 - 64, rfl, fun _ => by rw [Nat.mul_add], hb7, BD7, BS7, BE7, by omega, by omega, by have := hjm.out; show _ = _; omega⟩
              case measure => show m - 64 < m; omega
          · have hj : j = 2 := by have := hjm.out; omega
            rw [hj] at BS
            obtain ⟨st, hst⟩ : ∃ st, Hid (st = blocksS s0 E 2) := ⟨_, Lib.hid rfl⟩
            rw [← hst.out] at BS hS
            obtain ⟨q0, q1, q2, q3, q4, q5, q6, q7⟩ := st_cells BS
            have hso : st.ok := by rw [hst.out]; exact blocksS_ok hs0k _
            clear hj hjm hA2 BE
            go_wp2_with fail
            clear q0 q1 q2 q3 q4 q5 q6 q7 BS
            go_loopw [54] (fun i wr => ∃ t : Nat, t ≤ 8 ∧ i = .int .i64 t ∧ Below W.heap.size W wr ∧ Blk wr W.heap.size 54 (byts ((st.list.take t).flatMap (fun v => bytesN v 4) ++ zerosN (32 - 4 * t))).toArray) (fun i _ => 8 - (intOf i).toNat)
            case atStart => exact ⟨0, by omega, rfl, hb, BD⟩
            case round =>
              clear hb BD
              obtain ⟨t, ht8, rfl, hb, BD⟩ := hrel
              by_cases hlt : t < 8
              · obtain ⟨v, hv, hv32, hidx⟩ := idx_state st hso t hlt
                have hrow := dig_row (l := st.list) (v := v) hv (by show t < 8; exact hlt)
                have BD2 := BD
                rw [hrow.out.1] at BD2
                have it : (t : Int) < 8 := by omega
                have hpl : Hid ((byts ((st.list.take t).flatMap fun v => bytesN v 4)).length = 4 * t) := by show _ = _; rw [byts_length, flat4_len, List.length_take]; show 4 * min t 8 = 4 * t; omega
                have hsl := slice_dig W.heap.size t hlt
                have hH := Lib.hid hrow.out.2
                clear hrow
                go_wp2_with fail
                refine (put_any W.heap.size (4 * t) 4 (32 - 4 * t) v 54 _ (byts (zerosN 4)) (byts (zerosN (28 - 4 * t))) wr BD2 hpl.out rfl (by omega)).mono ?_
                rintro e w6 ⟨rfl, hg6, BD6⟩
                have BD7 : Blk w6 W.heap.size 54 (byts ((st.list.take (t + 1)).flatMap (fun v => bytesN v 4) ++ zerosN (32 - 4 * (t + 1)))).toArray := by
                  rw [← hH.out]; exact BD6
                have hb7 := hb.grown hg6 hb.size (fun q e => by cases e; omega)
                clear hb BD BD2 BD6 hg6
                go_wp2_with fail
                go_roundw
                case rel => exact ⟨t + 1, by omega, by go_num, hb7, BD7⟩
                case measure => simp [intOf]; omega
              · have ht : t = 8 := by omega
                have BD8 : Blk wr W.heap.size 54 (byts (shaN l)).toArray := by
                  rw [ht] at BD
                  rw [hS.out]
                  simpa [zerosN, S8.list] using BD
                clear ht BD
                go_upto_region 21 with fail
                apply wp_region_lit
                refine wpList_load_row rfl 54 (.tmp 2) rfl W.heap.size rfl 54 (byts (shaN l)).toArray (0, 0) _ BD8 dig_under rfl (by rw [List.size_toArray, byts_length, shaN_len]; exact dig_info) ?_
                refine wpList_store_row rfl 54 (.tmp 2) (.tmp 68) rfl W.heap.size (byts (shaN l)).toArray rfl rfl 54 _ BD8 (by rw [List.size_toArray, byts_length, shaN_len]; exact dig_info) rfl (byts_one _) ?_
                have hb9 := below_setRow hb (Nat.le_refl _) (byts (shaN l)).toArray
                have BD9 : Blk (wr.setRow W.heap.size (byts (shaN l)).toArray) W.heap.size 54 (byts (shaN l)).toArray := setRow_heap wr W.heap.size _ _ 54 _ BD8
                go_wp2_with fail
                exact bodyPost_ret (v := .agg (byts (shaN l)).toArray) (results_cell_row rfl _ _ W.heap.size 54 _ (0, 0) _ rfl BD9 dig_under rfl (by rw [List.size_toArray, byts_length, shaN_len]; exact dig_info)) rfl ⟨rfl, hb9⟩

end Go.Proofs.YthgppaiiapkdjaaGreatDoor
