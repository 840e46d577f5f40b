/-
  Arguments, opened: a slice of structs or numbers as a list.
-/
import Derived.Test.YtmbopkcmbiommaaGreatDoorMac
import Derived.ProofKit
import Derived.OpenShut
import Derived.ShutString
import Derived.ChangeOld
import Derived.Below
import Derived.Deep.Slices
import Derived.Deep.Fields
namespace Go.Proofs.YtmbopkcmbiommaaGreatDoor
open Go.ChangeShapes Go.WideShapes Go.ChangeAt Go.RowKit Go.Deep

theorem own_knob : ownKnob Tryz.prog.godebug = none := by kernel_rfl
theorem laid_out : laidOutB Tryz.prog = true := by kernel_rfl

section
variable {H : Type} {enc : TypeId × Value → H} {P : Program} {w : World} {base : Nat} {spare : Nat → Bool} {held : Bool}
theorem flat_len {α : Type} {f : α → List Value} {sz : Nat} (hf : ∀ x, (f x).length = sz) : ∀ l : List α, (l.flatMap f).length = l.length * sz
  | [] => by simp
  | x :: l => by rw [List.flatMap_cons, List.length_append, hf, flat_len hf l, List.length_cons, Nat.succ_mul]; omega
theorem add_of_add (a : Addr) (i j : Nat) : (a.add i).add j = a.add (i + j) := by
  unfold Addr.add
  by_cases hi : i = 0 <;> by_cases hj : j = 0 <;> simp [hi, hj, Nat.add_assoc]
/-- A slice whose elements read as 'α', each in sz cells that are a function of it. -/
theorem open_slice_as {α : Type} {f : α → List Value} {Pr : α → Prop} {t e : TypeId} {sz fuel : Nat} {cs : List Value} {x : DataW H × List MemPlace} (ht : P.underlying t = some (.slice e)) (hsz : P.cellsOf e = sz) (hs : 0 < sz) (hf : ∀ x, (f x).length = sz)
    (hel : ∀ (n : Nat) (cs : List Value) (y : DataW H × List MemPlace), DataW.trod enc P w base spare held n e cs = some y → ∃ a, cs = f a ∧ Pr a) (h : DataW.trod enc P w base spare held fuel t cs = some x) :
    ∃ (A : Option Addr) (n c : Nat) (l : List α), cs = [.slice A n c] ∧ l.length = n ∧ n ≤ maxLen ∧ Rd w w.heap.size sz A n (l.flatMap f) ∧ ∀ y ∈ l, Pr y := by
  rcases open_slice ht h with ⟨rfl, _⟩ | ⟨a, len, cap, m, n, D, Pl, rfl, hb, hl, hm, hmm, rfl, hx⟩
  · exact ⟨none, 0, 0, [], rfl, rfl, Nat.zero_le _, Rd.nil_, fun y hy => by cases hy⟩
  · rw [hsz] at hx
    have hlm : len ≤ m := by rw [hmm]; split <;> omega
    rcases Nat.eq_zero_or_pos len with h0 | hpos
    · subst h0
      exact ⟨some a, 0, cap, [], rfl, rfl, Nat.zero_le _, ⟨by simp, fun h => absurd h (by omega)⟩, fun y hy => by cases hy⟩
    · obtain ⟨cs0, _, ht0⟩ := hx 0 (by omega)
      obtain ⟨a0, _, _⟩ := hel _ _ _ ht0
      haveI : Inhabited α := ⟨a0⟩
      obtain ⟨V, hV⟩ := choose_lt (α := α) (n := len) (p := fun i y => w.cells? base (a.add (i * sz)) sz = some (f y) ∧ Pr y) (fun i hi => by
        obtain ⟨cs', h1, h2⟩ := hx i (by omega)
        obtain ⟨y, rfl, hy⟩ := hel _ _ _ h2
        exact ⟨y, h1, hy⟩)
      refine ⟨some a, len, cap, (List.range len).map V, rfl, by simp, by omega, ⟨by rw [flat_len hf]; simp, fun _ => ?_⟩, ?_⟩
      · have hc0 : ∀ i j u, i < len → (f (V i))[j]? = some u → w.cell? (a.add (i * sz + j)) = some u := by
          intro i j u hi hu
          obtain ⟨_, hlen, hat⟩ := World.cells?_some (hV i hi).1
          have hj : j < sz := by
            have := (List.getElem?_eq_some_iff.1 hu).1
            rw [hf] at this
            exact this
          have := hat j hj
          rw [add_of_add] at this
          rw [this]; exact hu
        obtain ⟨u0, hu0⟩ : ∃ u, (f (V 0))[0]? = some u := ⟨_, List.getElem?_eq_getElem (by rw [hf]; exact hs)⟩
        have hcell := hc0 0 0 u0 hpos hu0
        obtain ⟨b, off, spot⟩ := a
        have hspot : spot = none := by simpa [Addr.add] using World.cell?_spot hcell
        subst hspot
        refine ⟨b, off, rfl, ?_, ?_⟩
        · have : (⟨b, off, none⟩ : Addr).add (0 * sz + 0) = ⟨b, off, none⟩ := by simp [Addr.add]
          rw [this] at hcell
          unfold World.cell? at hcell
          cases hh : w.heap[b]? with
          | none => simp [hh] at hcell
          | some o => exact (Array.getElem?_eq_some_iff.1 hh).1
        · intro j u hu
          have hjl : j < len * sz := by
            have := (List.getElem?_eq_some_iff.1 hu).1
            rw [flat_len hf] at this
            simpa using this
          have hi : j / sz < len := by rw [Nat.div_lt_iff_lt_mul hs]; exact hjl
          have hdm : j = j / sz * sz + j % sz := by rw [Nat.mul_comm]; exact (Nat.div_add_mod j sz).symm
          have hmod := Nat.mod_lt j hs
          rw [hdm, flat_at hf _ (j / sz) (j % sz) (V (j / sz)) (by simp [hi]) hmod] at hu
          have := hc0 (j / sz) (j % sz) u hi hu
          rw [← hdm] at this
          have ha : (⟨b, off, none⟩ : Addr).add j = ⟨b, off + j, none⟩ := by
            unfold Addr.add
            split
            · rename_i h; subst h; rfl
            · rfl
          rwa [ha] at this
      · intro y hy
        obtain ⟨i, hi, rfl⟩ := List.mem_map.1 hy
        exact (hV i (List.mem_range.1 hi)).2
def isI64 : Option TypeDesc → Bool
  | some (.int .i64) => true
  | _ => false
theorem isI64_out {o : Option TypeDesc} (h : isI64 o = true) : o = some (.int .i64) := by
  unfold isI64 at h
  split at h
  · rfl
  · cases h
def allInts (P : Program) (fs : Array Field) : Bool := (List.range fs.size).all fun i => match fs[i]? with
  | some f => f.offset == i && (P.cellsOf f.type == 1 && isI64 (P.underlying f.type))
  | none => false
/-- A struct of whole numbers. -/
theorem open_struct_ints {t : TypeId} {fs : Array Field} {fuel : Nat} {cs : List Value} {x : DataW H × List MemPlace} (ht : P.underlying t = some (.struct fs)) (hall : allInts P fs = true) (hC : P.cellsOf t = fs.size)
    (h : DataW.trod enc P w base spare held fuel t cs = some x) : ∃ zs : List Int, zs.length = fs.size ∧ cs = zs.map (Value.int .i64) ∧ ∀ z ∈ zs, (Lit.int .i64 z).wf = true := by
  obtain ⟨xs, m, _, _, hl, hxl, hf⟩ := DataW.trod_struct ht h
  rw [hC] at hl
  have hone : ∀ i, i < fs.size → ∃ z : Int, cs[i]? = some (.int .i64 z) ∧ (Lit.int .i64 z).wf = true := by
    intro i hi
    have hb := List.all_eq_true.1 hall i (List.mem_range.2 hi)
    have hfi : fs[i]? = some fs[i] := Array.getElem?_eq_getElem hi
    simp only [hfi, Bool.and_eq_true, beq_iff_eq] at hb
    obtain ⟨ho, hc, hk⟩ := hb
    have h1 := hf i _ hfi
    rw [ho, hc] at h1
    have hcs : (cs.drop i).take 1 = [cs[i]'(by omega)] := by
      rw [List.drop_eq_getElem_cons (by omega)]; rfl
    rw [hcs, List.getElem?_eq_getElem (by omega)] at h1
    obtain ⟨z, hz, _, hw⟩ := DataW.trod_int (isI64_out hk) h1
    injection hz with hz
    exact ⟨z, by rw [List.getElem?_eq_getElem (by omega), hz], hw⟩
  obtain ⟨V, hV⟩ := choose_lt (α := Int) (n := fs.size) (p := fun i z => cs[i]? = some (.int .i64 z) ∧ (Lit.int .i64 z).wf = true) hone
  refine ⟨(List.range fs.size).map V, by simp, ?_, ?_⟩
  · apply List.ext_getElem?
    intro i
    rcases Nat.lt_or_ge i fs.size with hi | hi
    · rw [(hV i hi).1]; simp [hi]
    · rw [List.getElem?_eq_none (by omega), List.getElem?_eq_none (by simpa using hi)]
  · intro z hz
    obtain ⟨i, hi, rfl⟩ := List.mem_map.1 hz
    exact (hV i (List.mem_range.1 hi)).2
theorem ints_flat (l : List Int) : l.flatMap (fun n => [Value.int .i64 n]) = ints l := by
  induction l with
  | nil => rfl
  | cons x l ih => rw [List.flatMap_cons, ih]; rfl
/-- []int. -/
theorem open_int_list {t e : TypeId} {fuel : Nat} {cs : List Value} {x : DataW H × List MemPlace} (ht : P.underlying t = some (.slice e)) (he : P.underlying e = some (.int .i64)) (hC : P.cellsOf e = 1) (h : DataW.trod enc P w base spare held fuel t cs = some x) :
    ∃ (A : Option Addr) (n c : Nat) (l : List Int), cs = [.slice A n c] ∧ l.length = n ∧ n ≤ maxLen ∧ Rd w w.heap.size 1 A n (ints l) ∧ ∀ y ∈ l, (Lit.int .i64 y).wf = true := by
  obtain ⟨A, n, c, l, h1, h2, h3, h4, h5⟩ := open_slice_as (f := fun n : Int => [Value.int .i64 n]) (Pr := fun y => (Lit.int .i64 y).wf = true) ht hC (by omega) (fun _ => rfl) (fun n cs y hy => by
    obtain ⟨v, rfl, _, hw⟩ := DataW.trod_int he hy
    exact ⟨v, rfl, hw⟩) h
  rw [ints_flat] at h4
  exact ⟨A, n, c, l, h1, h2, h3, h4, h5⟩
end

end Go.Proofs.YtmbopkcmbiommaaGreatDoor

/-
  Cells of a list whose members have as many cells each.
-/
namespace Go.Proofs.YtmbopkcmbiommaaGreatDoor
open Go.RowKit
/-- Cells of a list whose members have sz cells each. -/
theorem flat_mem {α : Type} {f : α → List Value} {sz : Nat} : ∀ (l : List α) (i j : Nat) (x : α), (∀ y ∈ l, (f y).length = sz) → l[i]? = some x → j < sz → (l.flatMap f)[i * sz + j]? = (f x)[j]?
  | [], i, j, x, _, h, _ => by simp at h
  | y :: l, 0, j, x, hf, h, hj => by
    simp only [List.getElem?_cons_zero, Option.some.injEq] at h
    subst h
    rw [List.flatMap_cons, Nat.zero_mul, Nat.zero_add, List.getElem?_append_left (by rw [hf _ (by simp)]; exact hj)]
  | y :: l, i + 1, j, x, hf, h, hj => by
    simp only [List.getElem?_cons_succ] at h
    rw [List.flatMap_cons, List.getElem?_append_right (by rw [hf _ (by simp), Nat.succ_mul]; omega), hf _ (by simp)]
    have : (i + 1) * sz + j - sz = i * sz + j := by rw [Nat.succ_mul]; omega
    rw [this]
    exact flat_mem l i j x (fun z hz => hf z (List.mem_cons_of_mem _ hz)) h hj
theorem flat_length {α : Type} {f : α → List Value} {sz : Nat} : ∀ (l : List α), (∀ y ∈ l, (f y).length = sz) → (l.flatMap f).length = l.length * sz
  | [], _ => by simp
  | y :: l, h => by rw [List.flatMap_cons, List.length_append, h y (by simp), flat_length l (fun z hz => h z (List.mem_cons_of_mem _ hz)), List.length_cons, Nat.succ_mul]; omega
end Go.Proofs.YtmbopkcmbiommaaGreatDoor
