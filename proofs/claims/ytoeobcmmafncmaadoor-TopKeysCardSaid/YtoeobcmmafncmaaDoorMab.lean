/-
  Cells of a list whose members have as many cells each.
-/
import Derived.Test.YtoeobcmmafncmaaDoorMaa
import Derived.Handed
namespace Go.Proofs.YtoeobcmmafncmaaDoor
open Go.RowKit
/-- Cells of a list whose members have sz cells each. -/
theorem flat_mem {α : Type} {f : α → List Value} {sz : Nat} : ∀ (l : List α) (i j : Nat) (x : α), (∀ y ∈ l, (f y).length = sz) → l[i]? = some x → j < sz → (l.flatMap f)[i * sz + j]? = (f x)[j]?
  | [], i, j, x, _, h, _ => by simp at h
  | y :: l, 0, j, x, hf, h, hj => by
    simp only [List.getElem?_cons_zero, Option.some.injEq] at h
    subst h
    rw [List.flatMap_cons, Nat.zero_mul, Nat.zero_add, List.getElem?_append_left (by rw [hf _ (by simp)]; exact hj)]
  | y :: l, i + 1, j, x, hf, h, hj => by
    simp only [List.getElem?_cons_succ] at h
    rw [List.flatMap_cons, List.getElem?_append_right (by rw [hf _ (by simp), Nat.succ_mul]; omega), hf _ (by simp)]
    have : (i + 1) * sz + j - sz = i * sz + j := by rw [Nat.succ_mul]; omega
    rw [this]
    exact flat_mem l i j x (fun z hz => hf z (List.mem_cons_of_mem _ hz)) h hj
theorem flat_length {α : Type} {f : α → List Value} {sz : Nat} : ∀ (l : List α), (∀ y ∈ l, (f y).length = sz) → (l.flatMap f).length = l.length * sz
  | [], _ => by simp
  | y :: l, h => by rw [List.flatMap_cons, List.length_append, h y (by simp), flat_length l (fun z hz => h z (List.mem_cons_of_mem _ hz)), List.length_cons, Nat.succ_mul]; omega
end Go.Proofs.YtoeobcmmafncmaaDoor

/-
  Arguments, opened, with what their sizes allow: structs, arrays and slices whose members stand in memory.
-/
namespace Go.Proofs.YtoeobcmmafncmaaDoor
open Go.ChangeShapes Go.WideShapes Go.ChangeAt Go.RowKit Go.Deep

section
variable {H : Type} {enc : TypeId × Value → H} {P : Program} {w : World} {base : Nat} {spare : Nat → Bool} {held : Bool}
/-- What is light enough. -/
def Light (P : Program) (t : TypeId) (d : DataW H) : Prop := (d.weights P t).all (· ≤ reachBytes) = true
theorem light_all {e : TypeId} : ∀ {l : List (DataW H)}, (DataW.weightsAll P e l).all (· ≤ reachBytes) = true → ∀ d ∈ l, Light P e d
  | [], _, d, h => by cases h
  | a :: l, h, d, hd => by
    rw [DataW.weightsAll, List.all_append, Bool.and_eq_true] at h
    rcases List.mem_cons.1 hd with rfl | hd
    · exact h.1
    · exact light_all h.2 d hd
theorem light_each : ∀ {ts : List TypeId} {l : List (DataW H)}, (DataW.weightsEach P ts l).all (· ≤ reachBytes) = true → ∀ (i : Nat) t d, ts[i]? = some t → l[i]? = some d → Light P t d
  | [], _, _, i, t, d, ht, _ => by simp at ht
  | _ :: _, [], _, i, t, d, _, hd => by simp at hd
  | t0 :: ts, d0 :: l, h, i, t, d, ht, hd => by
    rw [DataW.weightsEach, List.all_append, Bool.and_eq_true] at h
    cases i with
    | zero =>
      simp only [List.getElem?_cons_zero, Option.some.injEq] at ht hd
      subst ht; subst hd
      exact h.1
    | succ i =>
      simp only [List.getElem?_cons_succ] at ht hd
      exact light_each h.2 i t d ht hd
theorem open_struct_w {t : TypeId} {fs : Array Field} {fuel : Nat} {cs : List Value} {x : DataW H × List MemPlace} (ht : P.underlying t = some (.struct fs)) (h : DataW.trod enc P w base spare held fuel t cs = some x) (hw : Light P t x.1) :
    cs.length = P.cellsOf t ∧ ∃ n, ∀ (i : Nat) (f : Field), fs[i]? = some f → ∃ y, DataW.trod enc P w base spare held n f.type ((cs.drop f.offset).take (P.cellsOf f.type)) = some y ∧ Light P f.type y.1 := by
  obtain ⟨xs, n, _, rfl, hl, hxl, hf⟩ := DataW.trod_struct ht h
  refine ⟨hl, n, fun i f hi => ?_⟩
  have hlt : i < fs.size := (Array.getElem?_eq_some_iff.1 hi).1
  have hx : xs[i]? = some xs[i] := List.getElem?_eq_getElem (by omega)
  refine ⟨xs[i], (hf i f hi).trans hx, ?_⟩
  unfold Light DataW.weights at hw
  rw [ht] at hw
  refine light_each hw i f.type xs[i].1 ?_ ?_
  · rw [List.getElem?_map, ← Array.getElem?_toList] at *
    rw [hi]; rfl
  · rw [List.getElem?_map, hx]; rfl
theorem open_array_w {t e : TypeId} {k fuel : Nat} {cs : List Value} {x : DataW H × List MemPlace} (ht : P.underlying t = some (.array k e)) (h : DataW.trod enc P w base spare held fuel t cs = some x) (hw : Light P t x.1) :
    cs.length = P.cellsOf t ∧ ∃ n, ∀ i, i < k → ∃ y, DataW.trod enc P w base spare held n e ((cs.drop (i * P.cellsOf e)).take (P.cellsOf e)) = some y ∧ Light P e y.1 := by
  obtain ⟨xs, n, _, rfl, hl, hxl, hf⟩ := DataW.trod_array ht h
  refine ⟨hl, n, fun i hi => ?_⟩
  have hx : xs[i]? = some xs[i] := List.getElem?_eq_getElem (by omega)
  refine ⟨xs[i], (hf i hi).trans hx, ?_⟩
  unfold Light DataW.weights at hw
  rw [ht] at hw
  exact light_all hw _ (List.mem_map.2 ⟨xs[i], List.getElem_mem _, rfl⟩)
theorem open_slice_w {α : Type} {f : α → List Value} {Pr : α → Prop} {t e : TypeId} {sz fuel : Nat} {cs : List Value} {x : DataW H × List MemPlace} (ht : P.underlying t = some (.slice e)) (hsz : P.cellsOf e = sz) (hs : 0 < sz)
    (hel : ∀ (n : Nat) (cs : List Value) (y : DataW H × List MemPlace), DataW.trod enc P w base spare held n e cs = some y → Light P e y.1 → ∃ a, cs = f a ∧ (f a).length = sz ∧ Pr a)
    (h : DataW.trod enc P w base spare held fuel t cs = some x) (hw : Light P t x.1) :
    ∃ (A : Option Addr) (c : Nat) (l : List α), cs = [.slice A l.length c] ∧ l.length ≤ c ∧ c ≤ maxLen ∧ l.length * P.bytesOf e ≤ reachBytes ∧ Rd w w.heap.size sz A l.length (l.flatMap f) ∧ (∀ y ∈ l, (f y).length = sz ∧ Pr y) := by
  rcases open_slice ht h with ⟨rfl, _⟩ | ⟨a, len, cap, m, n, D, Pl, rfl, hb, hl, hm, hmm, rfl, hx⟩
  · exact ⟨none, 0, [], rfl, Nat.zero_le _, Nat.zero_le _, by simp, Rd.nil_, fun y hy => by cases hy⟩
  · rw [hsz] at hx
    have hlm : len ≤ m := by rw [hmm]; split <;> omega
    unfold Light DataW.weights at hw
    rw [ht] at hw
    simp only [List.all_cons, List.all_append, Bool.and_eq_true, decide_eq_true_eq, List.length_map, List.length_range] at hw
    obtain ⟨hby, hw1, _⟩ := hw
    have hby' : len * P.bytesOf e ≤ reachBytes := Nat.le_trans (Nat.mul_le_mul_right _ (by omega)) hby
    have hli : ∀ i, i < len → Light P e (D i) := fun i hi => light_all hw1 _ (List.mem_map.2 ⟨i, List.mem_range.2 hi, rfl⟩)
    rcases Nat.eq_zero_or_pos len with h0 | hpos
    · subst h0
      exact ⟨some a, cap, [], rfl, Nat.zero_le _, hm, by simp, ⟨by simp, fun h => absurd h (by simp)⟩, fun y hy => by cases hy⟩
    · obtain ⟨cs0, _, ht0⟩ := hx 0 (by omega)
      obtain ⟨a0, _, _⟩ := hel _ _ _ ht0 (hli 0 hpos)
      haveI : Inhabited α := ⟨a0⟩
      obtain ⟨V, hV⟩ := choose_lt (α := α) (n := len) (p := fun i y => w.cells? base (a.add (i * sz)) sz = some (f y) ∧ (f y).length = sz ∧ Pr y) (fun i hi => by
        obtain ⟨cs', h1, h2⟩ := hx i (by omega)
        obtain ⟨y, rfl, hy⟩ := hel _ _ _ h2 (hli i hi)
        exact ⟨y, h1, hy⟩)
      have hmem : ∀ y ∈ (List.range len).map V, (f y).length = sz ∧ Pr y := fun y hy => by
        obtain ⟨i, hi, rfl⟩ := List.mem_map.1 hy
        exact (hV i (List.mem_range.1 hi)).2
      have hlen : ((List.range len).map V).length = len := by simp
      have hfl : (((List.range len).map V).flatMap f).length = len * sz := by rw [flat_length _ (fun y hy => (hmem y hy).1), hlen]
      refine ⟨some a, cap, (List.range len).map V, by rw [hlen], by rw [hlen]; exact hl, hm, by rw [hlen]; exact hby', ?_, hmem⟩
      rw [hlen]
      refine ⟨hfl, fun _ => ?_⟩
      have hc0 : ∀ i j u, i < len → (f (V i))[j]? = some u → w.cell? (a.add (i * sz + j)) = some u := by
        intro i j u hi hu
        obtain ⟨_, hlen, hat⟩ := World.cells?_some (hV i hi).1
        have hj : j < sz := by
          have := (List.getElem?_eq_some_iff.1 hu).1
          rw [(hV i hi).2.1] at this
          exact this
        have := hat j hj
        rw [add_of_add] at this
        rw [this]; exact hu
      obtain ⟨u0, hu0⟩ : ∃ u, (f (V 0))[0]? = some u := ⟨_, List.getElem?_eq_getElem (by rw [(hV 0 hpos).2.1]; exact hs)⟩
      have hcell := hc0 0 0 u0 hpos hu0
      obtain ⟨b, off, spot⟩ := a
      have hspot : spot = none := by simpa [Addr.add] using World.cell?_spot hcell
      subst hspot
      refine ⟨b, off, rfl, ?_, ?_⟩
      · have : (⟨b, off, none⟩ : Addr).add (0 * sz + 0) = ⟨b, off, none⟩ := by simp [Addr.add]
        rw [this] at hcell
        unfold World.cell? at hcell
        cases hh : w.heap[b]? with
        | none => simp [hh] at hcell
        | some o => exact (Array.getElem?_eq_some_iff.1 hh).1
      · intro j u hu
        have hjl : j < len * sz := by
          have := (List.getElem?_eq_some_iff.1 hu).1
          rwa [hfl] at this
        have hi : j / sz < len := by rw [Nat.div_lt_iff_lt_mul hs]; exact hjl
        have hdm : j = j / sz * sz + j % sz := by rw [Nat.mul_comm]; exact (Nat.div_add_mod j sz).symm
        have hmod := Nat.mod_lt j hs
        rw [hdm, flat_mem _ (j / sz) (j % sz) (V (j / sz)) (fun y hy => (hmem y hy).1) (by simp [hi]) hmod] at hu
        have := hc0 (j / sz) (j % sz) u hi hu
        rw [← hdm] at this
        have ha : (⟨b, off, none⟩ : Addr).add j = ⟨b, off + j, none⟩ := by
          unfold Addr.add
          split
          · rename_i h; subst h; rfl
          · rfl
        rwa [ha] at this
end
/-- Parts of a list of cells. -/
theorem drop_parts (cs : List Value) (o m : Nat) : cs.drop o = (cs.drop o).take m ++ cs.drop (o + m) := by
  rw [← List.drop_drop, List.take_append_drop]
theorem at_part {cs l : List Value} {o m j : Nat} {v : Value} (h : (cs.drop o).take m = l) (hv : l[j]? = some v) : cs[o + j]? = some v := by
  rw [← h, List.getElem?_take] at hv
  split at hv
  · rwa [List.getElem?_drop] at hv
  · cases hv
theorem cover {Q : Value → Prop} {cs l : List Value} (o m : Nat) (h : (cs.drop o).take m = l) (hl : ∀ v ∈ l, Q v) (k : ∀ v ∈ cs.drop (o + m), Q v) : ∀ v ∈ cs.drop o, Q v := by
  rw [drop_parts cs o m, h]
  intro v hv
  rcases List.mem_append.1 hv with hv | hv
  · exact hl v hv
  · exact k v hv
theorem wf_i64 {z : Int} (h : (Lit.int .i64 z).wf = true) : -9223372036854775808 ≤ z ∧ z ≤ 9223372036854775807 := by
  unfold Lit.wf at h
  simp only [Bool.and_eq_true, decide_eq_true_eq] at h
  exact h
theorem wf_u8 {z : Int} (h : (Lit.int .u8 z).wf = true) : 0 ≤ z ∧ z ≤ 255 := by
  unfold Lit.wf at h
  simp only [Bool.and_eq_true, decide_eq_true_eq] at h
  exact h
end Go.Proofs.YtoeobcmmafncmaaDoor
