/-
  Arguments, opened, with what their sizes allow: structs, arrays and slices whose members stand in memory.
-/
import Derived.Test.YtmbopkcmbiommaaGreatDoorMad
import Derived.Handed
import Derived.Test.YtmbopkcmbiommaaGreatDoorMap
namespace Go.Proofs.YtmbopkcmbiommaaGreatDoor
open Go.ChangeShapes Go.WideShapes Go.ChangeAt Go.RowKit Go.Deep

section
variable {H : Type} {enc : TypeId × Value → H} {P : Program} {w : World} {base : Nat} {spare : Nat → Bool} {held : Bool}
/-- What is light enough. -/
def Light (P : Program) (t : TypeId) (d : DataW H) : Prop := (d.weights P t).all (· ≤ reachBytes) = true
theorem light_all {e : TypeId} : ∀ {l : List (DataW H)}, (DataW.weightsAll P e l).all (· ≤ reachBytes) = true → ∀ d ∈ l, Light P e d
  | [], _, d, h => by cases h
  | a :: l, h, d, hd => by
    rw [DataW.weightsAll, List.all_append, Bool.and_eq_true] at h
    rcases List.mem_cons.1 hd with rfl | hd
    · exact h.1
    · exact light_all h.2 d hd
theorem light_each : ∀ {ts : List TypeId} {l : List (DataW H)}, (DataW.weightsEach P ts l).all (· ≤ reachBytes) = true → ∀ (i : Nat) t d, ts[i]? = some t → l[i]? = some d → Light P t d
  | [], _, _, i, t, d, ht, _ => by simp at ht
  | _ :: _, [], _, i, t, d, _, hd => by simp at hd
  | t0 :: ts, d0 :: l, h, i, t, d, ht, hd => by
    rw [DataW.weightsEach, List.all_append, Bool.and_eq_true] at h
    cases i with
    | zero =>
      simp only [List.getElem?_cons_zero, Option.some.injEq] at ht hd
      subst ht; subst hd
      exact h.1
    | succ i =>
      simp only [List.getElem?_cons_succ] at ht hd
      exact light_each h.2 i t d ht hd
theorem open_struct_w {t : TypeId} {fs : Array Field} {fuel : Nat} {cs : List Value} {x : DataW H × List MemPlace} (ht : P.underlying t = some (.struct fs)) (h : DataW.trod enc P w base spare held fuel t cs = some x) (hw : Light P t x.1) :
    cs.length = P.cellsOf t ∧ ∃ n, ∀ (i : Nat) (f : Field), fs[i]? = some f → ∃ y, DataW.trod enc P w base spare held n f.type ((cs.drop f.offset).take (P.cellsOf f.type)) = some y ∧ Light P f.type y.1 := by
  obtain ⟨xs, n, _, rfl, hl, hxl, hf⟩ := DataW.trod_struct ht h
  refine ⟨hl, n, fun i f hi => ?_⟩
  have hlt : i < fs.size := (Array.getElem?_eq_some_iff.1 hi).1
  have hx : xs[i]? = some xs[i] := List.getElem?_eq_getElem (by omega)
  refine ⟨xs[i], (hf i f hi).trans hx, ?_⟩
  unfold Light DataW.weights at hw
  rw [ht] at hw
  refine light_each hw i f.type xs[i].1 ?_ ?_
  · rw [List.getElem?_map, ← Array.getElem?_toList] at *
    rw [hi]; rfl
  · rw [List.getElem?_map, hx]; rfl
theorem open_array_w {t e : TypeId} {k fuel : Nat} {cs : List Value} {x : DataW H × List MemPlace} (ht : P.underlying t = some (.array k e)) (h : DataW.trod enc P w base spare held fuel t cs = some x) (hw : Light P t x.1) :
    cs.length = P.cellsOf t ∧ ∃ n, ∀ i, i < k → ∃ y, DataW.trod enc P w base spare held n e ((cs.drop (i * P.cellsOf e)).take (P.cellsOf e)) = some y ∧ Light P e y.1 := by
  obtain ⟨xs, n, _, rfl, hl, hxl, hf⟩ := DataW.trod_array ht h
  refine ⟨hl, n, fun i hi => ?_⟩
  have hx : xs[i]? = some xs[i] := List.getElem?_eq_getElem (by omega)
  refine ⟨xs[i], (hf i hi).trans hx, ?_⟩
  unfold Light DataW.weights at hw
  rw [ht] at hw
  exact light_all hw _ (List.mem_map.2 ⟨xs[i], List.getElem_mem _, rfl⟩)
theorem open_slice_w {α : Type} {f : α → List Value} {Pr : α → Prop} {t e : TypeId} {sz fuel : Nat} {cs : List Value} {x : DataW H × List MemPlace} (ht : P.underlying t = some (.slice e)) (hsz : P.cellsOf e = sz) (hs : 0 < sz)
    (hel : ∀ (n : Nat) (cs : List Value) (y : DataW H × List MemPlace), DataW.trod enc P w base spare held n e cs = some y → Light P e y.1 → ∃ a, cs = f a ∧ (f a).length = sz ∧ Pr a)
    (h : DataW.trod enc P w base spare held fuel t cs = some x) (hw : Light P t x.1) :
    ∃ (A : Option Addr) (c : Nat) (l : List α), cs = [.slice A l.length c] ∧ l.length ≤ c ∧ c ≤ maxLen ∧ l.length * P.bytesOf e ≤ reachBytes ∧ Rd w w.heap.size sz A l.length (l.flatMap f) ∧ (∀ y ∈ l, (f y).length = sz ∧ Pr y) := by
  rcases open_slice ht h with ⟨rfl, _⟩ | ⟨a, len, cap, m, n, D, Pl, rfl, hb, hl, hm, hmm, rfl, hx⟩
  · exact ⟨none, 0, [], rfl, Nat.zero_le _, Nat.zero_le _, by simp, Rd.nil_, fun y hy => by cases hy⟩
  · rw [hsz] at hx
    have hlm : len ≤ m := by rw [hmm]; split <;> omega
    unfold Light DataW.weights at hw
    rw [ht] at hw
    simp only [List.all_cons, List.all_append, Bool.and_eq_true, decide_eq_true_eq, List.length_map, List.length_range] at hw
    obtain ⟨hby, hw1, _⟩ := hw
    have hby' : len * P.bytesOf e ≤ reachBytes := Nat.le_trans (Nat.mul_le_mul_right _ (by omega)) hby
    have hli : ∀ i, i < len → Light P e (D i) := fun i hi => light_all hw1 _ (List.mem_map.2 ⟨i, List.mem_range.2 hi, rfl⟩)
    rcases Nat.eq_zero_or_pos len with h0 | hpos
    · subst h0
      exact ⟨some a, cap, [], rfl, Nat.zero_le _, hm, by simp, ⟨by simp, fun h => absurd h (by simp)⟩, fun y hy => by cases hy⟩
    · obtain ⟨cs0, _, ht0⟩ := hx 0 (by omega)
      obtain ⟨a0, _, _⟩ := hel _ _ _ ht0 (hli 0 hpos)
      haveI : Inhabited α := ⟨a0⟩
      obtain ⟨V, hV⟩ := choose_lt (α := α) (n := len) (p := fun i y => w.cells? base (a.add (i * sz)) sz = some (f y) ∧ (f y).length = sz ∧ Pr y) (fun i hi => by
        obtain ⟨cs', h1, h2⟩ := hx i (by omega)
        obtain ⟨y, rfl, hy⟩ := hel _ _ _ h2 (hli i hi)
        exact ⟨y, h1, hy⟩)
      have hmem : ∀ y ∈ (List.range len).map V, (f y).length = sz ∧ Pr y := fun y hy => by
        obtain ⟨i, hi, rfl⟩ := List.mem_map.1 hy
        exact (hV i (List.mem_range.1 hi)).2
      have hlen : ((List.range len).map V).length = len := by simp
      have hfl : (((List.range len).map V).flatMap f).length = len * sz := by rw [flat_length _ (fun y hy => (hmem y hy).1), hlen]
      refine ⟨some a, cap, (List.range len).map V, by rw [hlen], by rw [hlen]; exact hl, hm, by rw [hlen]; exact hby', ?_, hmem⟩
      rw [hlen]
      refine ⟨hfl, fun _ => ?_⟩
      have hc0 : ∀ i j u, i < len → (f (V i))[j]? = some u → w.cell? (a.add (i * sz + j)) = some u := by
        intro i j u hi hu
        obtain ⟨_, hlen, hat⟩ := World.cells?_some (hV i hi).1
        have hj : j < sz := by
          have := (List.getElem?_eq_some_iff.1 hu).1
          rw [(hV i hi).2.1] at this
          exact this
        have := hat j hj
        rw [add_of_add] at this
        rw [this]; exact hu
      obtain ⟨u0, hu0⟩ : ∃ u, (f (V 0))[0]? = some u := ⟨_, List.getElem?_eq_getElem (by rw [(hV 0 hpos).2.1]; exact hs)⟩
      have hcell := hc0 0 0 u0 hpos hu0
      obtain ⟨b, off, spot⟩ := a
      have hspot : spot = none := by simpa [Addr.add] using World.cell?_spot hcell
      subst hspot
      refine ⟨b, off, rfl, ?_, ?_⟩
      · have : (⟨b, off, none⟩ : Addr).add (0 * sz + 0) = ⟨b, off, none⟩ := by simp [Addr.add]
        rw [this] at hcell
        unfold World.cell? at hcell
        cases hh : w.heap[b]? with
        | none => simp [hh] at hcell
        | some o => exact (Array.getElem?_eq_some_iff.1 hh).1
      · intro j u hu
        have hjl : j < len * sz := by
          have := (List.getElem?_eq_some_iff.1 hu).1
          rwa [hfl] at this
        have hi : j / sz < len := by rw [Nat.div_lt_iff_lt_mul hs]; exact hjl
        have hdm : j = j / sz * sz + j % sz := by rw [Nat.mul_comm]; exact (Nat.div_add_mod j sz).symm
        have hmod := Nat.mod_lt j hs
        rw [hdm, flat_mem _ (j / sz) (j % sz) (V (j / sz)) (fun y hy => (hmem y hy).1) (by simp [hi]) hmod] at hu
        have := hc0 (j / sz) (j % sz) u hi hu
        rw [← hdm] at this
        have ha : (⟨b, off, none⟩ : Addr).add j = ⟨b, off + j, none⟩ := by
          unfold Addr.add
          split
          · rename_i h; subst h; rfl
          · rfl
        rwa [ha] at this
end
/-- Parts of a list of cells. -/
theorem drop_parts (cs : List Value) (o m : Nat) : cs.drop o = (cs.drop o).take m ++ cs.drop (o + m) := by
  rw [← List.drop_drop, List.take_append_drop]
theorem at_part {cs l : List Value} {o m j : Nat} {v : Value} (h : (cs.drop o).take m = l) (hv : l[j]? = some v) : cs[o + j]? = some v := by
  rw [← h, List.getElem?_take] at hv
  split at hv
  · rwa [List.getElem?_drop] at hv
  · cases hv
theorem cover {Q : Value → Prop} {cs l : List Value} (o m : Nat) (h : (cs.drop o).take m = l) (hl : ∀ v ∈ l, Q v) (k : ∀ v ∈ cs.drop (o + m), Q v) : ∀ v ∈ cs.drop o, Q v := by
  rw [drop_parts cs o m, h]
  intro v hv
  rcases List.mem_append.1 hv with hv | hv
  · exact hl v hv
  · exact k v hv
theorem wf_i64 {z : Int} (h : (Lit.int .i64 z).wf = true) : -9223372036854775808 ≤ z ∧ z ≤ 9223372036854775807 := by
  unfold Lit.wf at h
  simp only [Bool.and_eq_true, decide_eq_true_eq] at h
  exact h
theorem wf_u8 {z : Int} (h : (Lit.int .u8 z).wf = true) : 0 ≤ z ∧ z ≤ 255 := by
  unfold Lit.wf at h
  simp only [Bool.and_eq_true, decide_eq_true_eq] at h
  exact h
end Go.Proofs.YtmbopkcmbiommaaGreatDoor

/-
  A world that came in.
-/
namespace Go.Proofs.YtmbopkcmbiommaaGreatDoor
open Go.ChangeShapes Go.WideShapes Go.ChangeAt Go.RowKit Go.Deep

set_option maxRecDepth 100000
theorem k_int : Tryz.prog.cellsOf 3 = 1 := by kernel_rfl
theorem k_u8 : Tryz.prog.cellsOf 5 = 1 := by kernel_rfl
theorem k_rule : Tryz.prog.cellsOf 59 = 3 := by kernel_rfl
theorem k_gap : Tryz.prog.cellsOf 61 = 2 := by kernel_rfl
theorem k_tier : Tryz.prog.cellsOf 63 = 2 := by kernel_rfl
theorem k_entry : Tryz.prog.cellsOf 67 = 8 := by kernel_rfl
theorem k_fault : Tryz.prog.cellsOf 69 = 3 := by kernel_rfl
theorem k_slip : Tryz.prog.cellsOf 71 = 4 := by kernel_rfl
theorem k_line : Tryz.prog.cellsOf 56 = 6 := by kernel_rfl
theorem k_order : Tryz.prog.cellsOf 65 = 11 := by kernel_rfl
theorem k_table : Tryz.prog.cellsOf 24 = 2 := by kernel_rfl
theorem k_tariff : Tryz.prog.cellsOf 28 = 3 := by kernel_rfl
theorem k_world : Tryz.prog.cellsOf 35 = 43 := by kernel_rfl
theorem k_digest : Tryz.prog.cellsOf 32 = 32 := by kernel_rfl
theorem k_ints : Tryz.prog.cellsOf 25 = 1 := by kernel_rfl
theorem k_rules : Tryz.prog.cellsOf 53 = 1 := by kernel_rfl
theorem k_gaps : Tryz.prog.cellsOf 54 = 1 := by kernel_rfl
theorem k_tiers : Tryz.prog.cellsOf 26 = 1 := by kernel_rfl
theorem k_entries : Tryz.prog.cellsOf 30 = 1 := by kernel_rfl
theorem k_slips : Tryz.prog.cellsOf 33 = 1 := by kernel_rfl
theorem k_lines : Tryz.prog.cellsOf 22 = 1 := by kernel_rfl
theorem k_orders : Tryz.prog.cellsOf 29 = 1 := by kernel_rfl
theorem k_bool : Tryz.prog.cellsOf 4 = 1 := by kernel_rfl
def isI (n : Int) : Prop := -9223372036854775808 ≤ n ∧ n ≤ 9223372036854775807
theorem zip_both {α β : Type} : ∀ l : List (α × β), (l.map (·.1)).zip (l.map (·.2)) = l
  | [] => rfl
  | (a, b) :: l => by rw [List.map_cons, List.map_cons, List.zip_cons_cons, zip_both l]
theorem ints_each (l : List Int) : l.flatMap (fun z : Int => [Value.int .i64 z]) = ints l := by
  unfold ints
  induction l with
  | nil => rfl
  | cons x l ih => rw [List.flatMap_cons, ih]; rfl
section
variable {H : Type} {enc : TypeId × Value → H} {w : World} {base : Nat} {spare : Nat → Bool} {held : Bool}
theorem io_int {n : Nat} {cs : List Value} {y : DataW H × List MemPlace} (h : DataW.trod enc Tryz.prog w base spare held n 3 cs = some y) : ∃ z, cs = [.int .i64 z] ∧ isI z := by
  obtain ⟨z, h1, _, h2⟩ := DataW.trod_int Tryz.underlying3 h
  exact ⟨z, h1, wf_i64 h2⟩
theorem io_ints {n : Nat} {cs : List Value} {y : DataW H × List MemPlace} (h : DataW.trod enc Tryz.prog w base spare held n 25 cs = some y) (hw : Light Tryz.prog 25 y.1) : ∃ A c, ∃ l : List Int, cs = [.slice A l.length c] ∧ Rd w w.heap.size 1 A l.length (ints l) := by
  obtain ⟨A, c, l, rfl, h1, h2, -, h4, h5⟩ := open_slice_w (f := fun z : Int => [Value.int .i64 z]) (Pr := fun _ => True) Tryz.underlying25 k_int (by omega) (fun n cs y h _ => by obtain ⟨z, e, hz⟩ := io_int h; exact ⟨z, e, rfl, trivial⟩) h hw
  rw [ints_each] at h4
  exact ⟨A, c, l, rfl, h4⟩
theorem io_digest {n : Nat} {cs : List Value} {y : DataW H × List MemPlace} (h : DataW.trod enc Tryz.prog w base spare held n 32 cs = some y) (hw : Light Tryz.prog 32 y.1) : ∃ d : List Nat, cs = byts d ∧ d.length = 32 ∧ ∀ x ∈ d, x < 256 := by
  obtain ⟨hl, m, hf⟩ := open_array_w Tryz.underlying32 h hw
  rw [k_digest] at hl
  obtain ⟨V, hV⟩ := choose_lt (α := Nat) (n := 32) (p := fun i z => cs[i]? = some (.int .u8 (z : Nat)) ∧ z < 256) (fun i hi => by
    obtain ⟨y, q, -⟩ := hf i hi
    rw [k_u8, Nat.mul_one] at q
    obtain ⟨z, e, _, hz⟩ := DataW.trod_int Tryz.underlying5 q
    have hz' := wf_u8 hz
    refine ⟨z.toNat, ?_, by omega⟩
    have := at_part (j := 0) e rfl
    rw [Nat.add_zero] at this
    rw [this, show ((z.toNat : Nat) : Int) = z by omega])
  have he : cs = byts ((List.range 32).map V) := by
    apply List.ext_getElem?
    intro i
    rcases Nat.lt_or_ge i 32 with hi | hi
    · rw [(hV i hi).1]; simp [byts, hi]
    · rw [List.getElem?_eq_none (by omega), List.getElem?_eq_none (by simpa [byts] using hi)]
  refine ⟨(List.range 32).map V, he, by simp, fun x hx => ?_⟩
  obtain ⟨i, hi, rfl⟩ := List.mem_map.1 hx
  exact (hV i (List.mem_range.1 hi)).2
theorem io_rule (n : Nat) (cs : List Value) (y : DataW H × List MemPlace) (h : DataW.trod enc Tryz.prog w base spare held n 59 cs = some y) (hw : Light Tryz.prog 59 y.1) : ∃ r : Rl, cs = r.cl ∧ r.cl.length = 3 ∧ True := by
  obtain ⟨hl, m, hf⟩ := open_struct_w Tryz.underlying59 h hw
  rw [k_rule] at hl
  obtain ⟨y0, q0, -⟩ := hf 0 _ rfl
  obtain ⟨y1, q1, -⟩ := hf 1 _ rfl
  obtain ⟨y2, q2, -⟩ := hf 2 _ rfl
  simp only [List.getElem_toArray, List.getElem_cons_zero, List.getElem_cons_succ] at q0 q1 q2
  rw [k_int] at q0 q1 q2
  obtain ⟨a0, e0, k0⟩ := io_int q0
  obtain ⟨a1, e1, k1⟩ := io_int q1
  obtain ⟨a2, e2, k2⟩ := io_int q2
  refine ⟨⟨a0, a1, a2⟩, ?_, rfl, trivial⟩
  rw [← List.drop_zero (l := cs), drop_parts cs 0 1, e0, drop_parts cs (0 + 1) 1, e1, drop_parts cs (0 + 1 + 1) 1, e2, List.drop_eq_nil_of_le (by omega)]
  rfl
theorem io_gap (n : Nat) (cs : List Value) (y : DataW H × List MemPlace) (h : DataW.trod enc Tryz.prog w base spare held n 61 cs = some y) (hw : Light Tryz.prog 61 y.1) : ∃ r : Gp, cs = r.cl ∧ r.cl.length = 2 ∧ True := by
  obtain ⟨hl, m, hf⟩ := open_struct_w Tryz.underlying61 h hw
  rw [k_gap] at hl
  obtain ⟨y0, q0, -⟩ := hf 0 _ rfl
  obtain ⟨y1, q1, -⟩ := hf 1 _ rfl
  simp only [List.getElem_toArray, List.getElem_cons_zero, List.getElem_cons_succ] at q0 q1
  rw [k_int] at q0 q1
  obtain ⟨a0, e0, k0⟩ := io_int q0
  obtain ⟨a1, e1, k1⟩ := io_int q1
  refine ⟨⟨a0, a1⟩, ?_, rfl, trivial⟩
  rw [← List.drop_zero (l := cs), drop_parts cs 0 1, e0, drop_parts cs (0 + 1) 1, e1, List.drop_eq_nil_of_le (by omega)]
  rfl
theorem io_tier (n : Nat) (cs : List Value) (y : DataW H × List MemPlace) (h : DataW.trod enc Tryz.prog w base spare held n 63 cs = some y) (hw : Light Tryz.prog 63 y.1) : ∃ r : Tie, cs = r.cl ∧ r.cl.length = 2 ∧ True := by
  obtain ⟨hl, m, hf⟩ := open_struct_w Tryz.underlying63 h hw
  rw [k_tier] at hl
  obtain ⟨y0, q0, -⟩ := hf 0 _ rfl
  obtain ⟨y1, q1, -⟩ := hf 1 _ rfl
  simp only [List.getElem_toArray, List.getElem_cons_zero, List.getElem_cons_succ] at q0 q1
  rw [k_int] at q0 q1
  obtain ⟨a0, e0, k0⟩ := io_int q0
  obtain ⟨a1, e1, k1⟩ := io_int q1
  refine ⟨⟨a0, a1⟩, ?_, rfl, trivial⟩
  rw [← List.drop_zero (l := cs), drop_parts cs 0 1, e0, drop_parts cs (0 + 1) 1, e1, List.drop_eq_nil_of_le (by omega)]
  rfl
theorem io_entry (n : Nat) (cs : List Value) (y : DataW H × List MemPlace) (h : DataW.trod enc Tryz.prog w base spare held n 67 cs = some y) (hw : Light Tryz.prog 67 y.1) : ∃ r : Ent, cs = r.cl ∧ r.cl.length = 8 ∧ isI r.kind := by
  obtain ⟨hl, m, hf⟩ := open_struct_w Tryz.underlying67 h hw
  rw [k_entry] at hl
  obtain ⟨y0, q0, -⟩ := hf 0 _ rfl
  obtain ⟨y1, q1, -⟩ := hf 1 _ rfl
  obtain ⟨y2, q2, -⟩ := hf 2 _ rfl
  obtain ⟨y3, q3, -⟩ := hf 3 _ rfl
  obtain ⟨y4, q4, -⟩ := hf 4 _ rfl
  obtain ⟨y5, q5, -⟩ := hf 5 _ rfl
  obtain ⟨y6, q6, -⟩ := hf 6 _ rfl
  obtain ⟨y7, q7, -⟩ := hf 7 _ rfl
  simp only [List.getElem_toArray, List.getElem_cons_zero, List.getElem_cons_succ] at q0 q1 q2 q3 q4 q5 q6 q7
  rw [k_int] at q0 q1 q2 q3 q4 q5 q6 q7
  obtain ⟨a0, e0, k0⟩ := io_int q0
  obtain ⟨a1, e1, k1⟩ := io_int q1
  obtain ⟨a2, e2, k2⟩ := io_int q2
  obtain ⟨a3, e3, k3⟩ := io_int q3
  obtain ⟨a4, e4, k4⟩ := io_int q4
  obtain ⟨a5, e5, k5⟩ := io_int q5
  obtain ⟨a6, e6, k6⟩ := io_int q6
  obtain ⟨a7, e7, k7⟩ := io_int q7
  refine ⟨⟨a0, a1, a2, a3, a4, a5, a6, a7⟩, ?_, rfl, k1⟩
  rw [← List.drop_zero (l := cs), drop_parts cs 0 1, e0, drop_parts cs (0 + 1) 1, e1, drop_parts cs (0 + 1 + 1) 1, e2, drop_parts cs (0 + 1 + 1 + 1) 1, e3, drop_parts cs (0 + 1 + 1 + 1 + 1) 1, e4, drop_parts cs (0 + 1 + 1 + 1 + 1 + 1) 1, e5, drop_parts cs (0 + 1 + 1 + 1 + 1 + 1 + 1) 1, e6, drop_parts cs (0 + 1 + 1 + 1 + 1 + 1 + 1 + 1) 1, e7, List.drop_eq_nil_of_le (by omega)]
  rfl
theorem io_slip (n : Nat) (cs : List Value) (y : DataW H × List MemPlace) (h : DataW.trod enc Tryz.prog w base spare held n 71 cs = some y) (hw : Light Tryz.prog 71 y.1) : ∃ r : Slp, cs = r.cl ∧ r.cl.length = 4 ∧ True := by
  obtain ⟨hl, m, hf⟩ := open_struct_w Tryz.underlying71 h hw
  rw [k_slip] at hl
  obtain ⟨y0, q0, -⟩ := hf 0 _ rfl
  obtain ⟨y1, q1, l1⟩ := hf 1 _ rfl
  simp only [List.getElem_toArray, List.getElem_cons_zero, List.getElem_cons_succ] at q0 q1 l1
  rw [k_int] at q0
  rw [k_fault] at q1
  obtain ⟨a, e0, -⟩ := io_int q0
  obtain ⟨hl1, m1, hf1⟩ := open_struct_w Tryz.underlying69 q1 l1
  rw [k_fault] at hl1
  obtain ⟨z0, r0, -⟩ := hf1 0 _ rfl
  obtain ⟨z1, r1, -⟩ := hf1 1 _ rfl
  obtain ⟨z2, r2, -⟩ := hf1 2 _ rfl
  simp only [List.getElem_toArray, List.getElem_cons_zero, List.getElem_cons_succ] at r0 r1 r2
  rw [k_int] at r0 r1 r2
  obtain ⟨b0, g0, -⟩ := io_int r0
  obtain ⟨b1, g1, -⟩ := io_int r1
  obtain ⟨b2, g2, -⟩ := io_int r2
  have e1 : (cs.drop (0 + 1)).take 3 = [.int .i64 b0, .int .i64 b1, .int .i64 b2] := by
    generalize (cs.drop 1).take 3 = ds at *
    show ds = _
    rw [← List.drop_zero (l := ds), drop_parts ds 0 1, g0, drop_parts ds (0 + 1) 1, g1, drop_parts ds (0 + 1 + 1) 1, g2, List.drop_eq_nil_of_le (by omega)]
    rfl
  refine ⟨⟨a, b0, b1, b2⟩, ?_, rfl, trivial⟩
  rw [← List.drop_zero (l := cs), drop_parts cs 0 1, e0, drop_parts cs (0 + 1) 3, e1, List.drop_eq_nil_of_le (by omega)]
  rfl
theorem io_line (n : Nat) (cs : List Value) (y : DataW H × List MemPlace) (h : DataW.trod enc Tryz.prog w base spare held n 56 cs = some y) (hw : Light Tryz.prog 56 y.1) : ∃ p : LS × Lin, cs = p.1.cl p.2 ∧ (p.1.cl p.2).length = 6 ∧ LinAt w w.heap.size p.1 p.2 := by
  obtain ⟨hl, m, hf⟩ := open_struct_w Tryz.underlying56 h hw
  rw [k_line] at hl
  obtain ⟨y0, q0, l0⟩ := hf 0 _ rfl
  obtain ⟨y1, q1, l1⟩ := hf 1 _ rfl
  obtain ⟨y2, q2, l2⟩ := hf 2 _ rfl
  obtain ⟨y3, q3, l3⟩ := hf 3 _ rfl
  obtain ⟨y4, q4, l4⟩ := hf 4 _ rfl
  obtain ⟨y5, q5, l5⟩ := hf 5 _ rfl
  simp only [List.getElem_toArray, List.getElem_cons_zero, List.getElem_cons_succ] at q0 q1 q2 q3 q4 q5 l0 l1 l2 l3 l4 l5
  rw [k_ints] at q0 q1
  rw [k_int] at q2 q3
  rw [k_rules] at q4
  rw [k_gaps] at q5
  obtain ⟨A0, c0, x0, e0, r0⟩ := io_ints q0 l0
  obtain ⟨A1, c1, x1, e1, r1⟩ := io_ints q1 l1
  obtain ⟨a2, e2, -⟩ := io_int q2
  obtain ⟨a3, e3, -⟩ := io_int q3
  obtain ⟨A4, c4, x4, e4, -, -, -, r4, -⟩ := open_slice_w Tryz.underlying53 k_rule (by omega) io_rule q4 l4
  obtain ⟨A5, c5, x5, e5, -, -, -, r5, -⟩ := open_slice_w Tryz.underlying54 k_gap (by omega) io_gap q5 l5
  refine ⟨(⟨A0, A1, A4, A5, c0, c1, c4, c5⟩, ⟨x0, x1, a2, a3, x4, x5⟩), ?_, rfl, ⟨r0, r1, r4, r5⟩⟩
  rw [← List.drop_zero (l := cs), drop_parts cs 0 1, e0, drop_parts cs (0 + 1) 1, e1, drop_parts cs (0 + 1 + 1) 1, e2, drop_parts cs (0 + 1 + 1 + 1) 1, e3, drop_parts cs (0 + 1 + 1 + 1 + 1) 1, e4, drop_parts cs (0 + 1 + 1 + 1 + 1 + 1) 1, e5, List.drop_eq_nil_of_le (by omega)]
  rfl
theorem io_order (n : Nat) (cs : List Value) (y : DataW H × List MemPlace) (h : DataW.trod enc Tryz.prog w base spare held n 65 cs = some y) (hw : Light Tryz.prog 65 y.1) : ∃ p : Odr × Value, cs = p.1.cl p.2 ∧ (p.1.cl p.2).length = 11 ∧ (isI p.1.crowd ∧ ∃ A c, p.2 = .slice A p.1.ag.length c ∧ Rd w w.heap.size 1 A p.1.ag.length (ints p.1.ag)) := by
  obtain ⟨hl, m, hf⟩ := open_struct_w Tryz.underlying65 h hw
  rw [k_order] at hl
  obtain ⟨y0, q0, l0⟩ := hf 0 _ rfl
  obtain ⟨y1, q1, l1⟩ := hf 1 _ rfl
  obtain ⟨y2, q2, l2⟩ := hf 2 _ rfl
  obtain ⟨y3, q3, l3⟩ := hf 3 _ rfl
  obtain ⟨y4, q4, l4⟩ := hf 4 _ rfl
  obtain ⟨y5, q5, l5⟩ := hf 5 _ rfl
  obtain ⟨y6, q6, l6⟩ := hf 6 _ rfl
  obtain ⟨y7, q7, l7⟩ := hf 7 _ rfl
  obtain ⟨y8, q8, l8⟩ := hf 8 _ rfl
  obtain ⟨y9, q9, l9⟩ := hf 9 _ rfl
  obtain ⟨y10, q10, l10⟩ := hf 10 _ rfl
  simp only [List.getElem_toArray, List.getElem_cons_zero, List.getElem_cons_succ] at q0 q1 q2 q3 q4 q5 q6 q7 q8 q9 q10 l8
  rw [k_int] at q0 q1 q2 q3 q4 q5 q6 q7 q10
  rw [k_ints] at q8
  rw [k_bool] at q9
  obtain ⟨a0, e0, k0⟩ := io_int q0
  obtain ⟨a1, e1, k1⟩ := io_int q1
  obtain ⟨a2, e2, k2⟩ := io_int q2
  obtain ⟨a3, e3, k3⟩ := io_int q3
  obtain ⟨a4, e4, k4⟩ := io_int q4
  obtain ⟨a5, e5, k5⟩ := io_int q5
  obtain ⟨a6, e6, k6⟩ := io_int q6
  obtain ⟨a7, e7, k7⟩ := io_int q7
  obtain ⟨a10, e10, k10⟩ := io_int q10
  obtain ⟨A8, c8, x8, e8, r8⟩ := io_ints q8 l8
  obtain ⟨b9, e9, -⟩ := DataW.trod_bool Tryz.underlying4 q9
  refine ⟨(⟨a0, a1, a2, a3, a4, a5, a6, a7, x8, b9, a10⟩, .slice A8 x8.length c8), ?_, rfl, k6, A8, c8, rfl, r8⟩
  rw [← List.drop_zero (l := cs), drop_parts cs 0 1, e0, drop_parts cs (0 + 1) 1, e1, drop_parts cs (0 + 1 + 1) 1, e2, drop_parts cs (0 + 1 + 1 + 1) 1, e3, drop_parts cs (0 + 1 + 1 + 1 + 1) 1, e4, drop_parts cs (0 + 1 + 1 + 1 + 1 + 1) 1, e5, drop_parts cs (0 + 1 + 1 + 1 + 1 + 1 + 1) 1, e6, drop_parts cs (0 + 1 + 1 + 1 + 1 + 1 + 1 + 1) 1, e7, drop_parts cs (0 + 1 + 1 + 1 + 1 + 1 + 1 + 1 + 1) 1, e8, drop_parts cs (0 + 1 + 1 + 1 + 1 + 1 + 1 + 1 + 1 + 1) 1, e9, drop_parts cs (0 + 1 + 1 + 1 + 1 + 1 + 1 + 1 + 1 + 1 + 1) 1, e10, List.drop_eq_nil_of_le (by omega)]
  rfl
/-- A world that came in: what its numbers are. -/
structure Wld.io (x : Wld) : Prop where
  crowd : ∀ o ∈ x.orders, isI o.crowd
  kind : ∀ e ∈ x.ents, isI e.kind
  seed : x.seed.length = 32
  byte : ∀ d ∈ x.seed, d < 256
theorem io_table {n : Nat} {cs : List Value} {y : DataW H × List MemPlace} (h : DataW.trod enc Tryz.prog w base spare held n 24 cs = some y) (hw : Light Tryz.prog 24 y.1) : ∃ (a : Int) (A : Option Addr) (c : Nat) (l : List (LS × Lin)), cs = [.int .i64 a, .slice A l.length c] ∧ Rd w w.heap.size 6 A l.length (l.flatMap (fun p => p.1.cl p.2)) ∧ ∀ p ∈ l, LinAt w w.heap.size p.1 p.2 := by
  obtain ⟨hl, m, hf⟩ := open_struct_w Tryz.underlying24 h hw
  rw [k_table] at hl
  obtain ⟨y0, q0, l0⟩ := hf 0 _ rfl
  obtain ⟨y1, q1, l1⟩ := hf 1 _ rfl
  simp only [List.getElem_toArray, List.getElem_cons_zero, List.getElem_cons_succ] at q0 q1 l0 l1
  rw [k_int] at q0
  rw [k_lines] at q1
  obtain ⟨a, e0, -⟩ := io_int q0
  obtain ⟨A, c, l, e1, -, -, -, r1, k1⟩ := open_slice_w (f := fun p : LS × Lin => p.1.cl p.2) Tryz.underlying22 k_line (by omega) io_line q1 l1
  refine ⟨a, A, c, l, ?_, r1, fun p hp => (k1 p hp).2⟩
  rw [← List.drop_zero (l := cs), drop_parts cs 0 1, e0, drop_parts cs (0 + 1) 1, e1, List.drop_eq_nil_of_le (by omega)]
  rfl
theorem io_tariff {n : Nat} {cs : List Value} {y : DataW H × List MemPlace} (h : DataW.trod enc Tryz.prog w base spare held n 28 cs = some y) (hw : Light Tryz.prog 28 y.1) : ∃ (A0 A1 A2 : Option Addr) (c0 c1 c2 : Nat) (l0 l1 : List Int) (l2 : List Tie), cs = [.slice A0 l0.length c0, .slice A1 l1.length c1, .slice A2 l2.length c2] ∧ Rd w w.heap.size 1 A0 l0.length (ints l0) ∧ Rd w w.heap.size 1 A1 l1.length (ints l1) ∧ Rd w w.heap.size 2 A2 l2.length (l2.flatMap Tie.cl) := by
  obtain ⟨hl, m, hf⟩ := open_struct_w Tryz.underlying28 h hw
  rw [k_tariff] at hl
  obtain ⟨y0, q0, l0⟩ := hf 0 _ rfl
  obtain ⟨y1, q1, l1⟩ := hf 1 _ rfl
  obtain ⟨y2, q2, l2⟩ := hf 2 _ rfl
  simp only [List.getElem_toArray, List.getElem_cons_zero, List.getElem_cons_succ] at q0 q1 q2 l0 l1 l2
  rw [k_ints] at q0 q1
  rw [k_tiers] at q2
  obtain ⟨A0, c0, x0, e0, r0⟩ := io_ints q0 l0
  obtain ⟨A1, c1, x1, e1, r1⟩ := io_ints q1 l1
  obtain ⟨A2, c2, x2, e2, -, -, -, r2, -⟩ := open_slice_w Tryz.underlying26 k_tier (by omega) io_tier q2 l2
  refine ⟨A0, A1, A2, c0, c1, c2, x0, x1, x2, ?_, r0, r1, r2⟩
  rw [← List.drop_zero (l := cs), drop_parts cs 0 1, e0, drop_parts cs (0 + 1) 1, e1, drop_parts cs (0 + 1 + 1) 1, e2, List.drop_eq_nil_of_le (by omega)]
  rfl
theorem io_world {n : Nat} {cs : List Value} {y : DataW H × List MemPlace} (h : DataW.trod enc Tryz.prog w base spare held n 35 cs = some y) (hw : Light Tryz.prog 35 y.1) : ∃ (s : WS) (x : Wld), cs = s.cl x ∧ WldAt w w.heap.size s x ∧ x.io := by
  obtain ⟨hl, m, hf⟩ := open_struct_w Tryz.underlying35 h hw
  rw [k_world] at hl
  obtain ⟨y0, q0, l0⟩ := hf 0 _ rfl
  obtain ⟨y1, q1, l1⟩ := hf 1 _ rfl
  obtain ⟨y2, q2, l2⟩ := hf 2 _ rfl
  obtain ⟨y3, q3, l3⟩ := hf 3 _ rfl
  obtain ⟨y4, q4, l4⟩ := hf 4 _ rfl
  obtain ⟨y5, q5, l5⟩ := hf 5 _ rfl
  obtain ⟨y6, q6, l6⟩ := hf 6 _ rfl
  obtain ⟨y7, q7, l7⟩ := hf 7 _ rfl
  obtain ⟨y8, q8, l8⟩ := hf 8 _ rfl
  simp only [List.getElem_toArray, List.getElem_cons_zero, List.getElem_cons_succ] at q0 q1 q2 q3 q4 q5 q6 q7 q8 l0 l1 l2 l4 l6 l7 l8
  rw [k_table] at q0
  rw [k_tariff] at q1
  rw [k_orders] at q2
  rw [k_int] at q3 q5
  rw [k_entries] at q4
  rw [k_ints] at q6
  rw [k_digest] at q7
  rw [k_slips] at q8
  obtain ⟨a0, A0, c0, x0, e0, r0, i0⟩ := io_table q0 l0
  obtain ⟨B0, B1, B2, d0, d1, d2, z0, z1, z2, e1, r1, r1b, r1c⟩ := io_tariff q1 l1
  obtain ⟨A2, c2, x2, e2, -, -, -, r2, i2⟩ := open_slice_w (f := fun p : Odr × Value => p.1.cl p.2) Tryz.underlying29 k_order (by omega) io_order q2 l2
  obtain ⟨a3, e3, -⟩ := io_int q3
  obtain ⟨A4, c4, x4, e4, -, -, -, r4, i4⟩ := open_slice_w Tryz.underlying30 k_entry (by omega) io_entry q4 l4
  obtain ⟨a5, e5, -⟩ := io_int q5
  obtain ⟨A6, c6, x6, e6, r6⟩ := io_ints q6 l6
  obtain ⟨sd, e7, s7, i7⟩ := io_digest q7 l7
  obtain ⟨A8, c8, x8, e8, -, -, -, r8, -⟩ := open_slice_w Tryz.underlying33 k_slip (by omega) io_slip q8 l8
  refine ⟨⟨A0, B0, B1, B2, A2, A4, A6, A8, c0, d0, d1, d2, c2, c4, c6, c8⟩, ⟨a0, x0.map (·.2), z0, z1, z2, x2.map (·.1), a3, x4, a5, x6, sd, x8⟩, ?_, ⟨⟨x0.map (·.1), by simp, ?_, fun k y hy => ?_⟩, r1, r1b, r1c, ⟨x2.map (·.2), by simp, ?_, fun k y hy => ?_⟩, r4, r6, r8⟩, ⟨fun o ho => ?_, fun e he => (i4 e he).2, s7, i7⟩⟩
  · rw [← List.drop_zero (l := cs), drop_parts cs 0 2, e0, drop_parts cs (0 + 2) 3, e1, drop_parts cs (0 + 2 + 3) 1, e2, drop_parts cs (0 + 2 + 3 + 1) 1, e3, drop_parts cs (0 + 2 + 3 + 1 + 1) 1, e4, drop_parts cs (0 + 2 + 3 + 1 + 1 + 1) 1, e5, drop_parts cs (0 + 2 + 3 + 1 + 1 + 1 + 1) 1, e6, drop_parts cs (0 + 2 + 3 + 1 + 1 + 1 + 1 + 1) 32, e7, drop_parts cs (0 + 2 + 3 + 1 + 1 + 1 + 1 + 1 + 32) 1, e8, List.drop_eq_nil_of_le (by omega)]
    unfold WS.cl
    simp only [List.length_map]
    rfl
  · show Rd w w.heap.size 6 A0 (x0.map (·.2)).length (linsCl (x0.map (·.1)) (x0.map (·.2)))
    unfold linsCl
    rw [zip_both, List.length_map]
    exact r0
  · have hy : (x0.map (·.2))[k]? = some y := hy
    rw [List.getElem?_map] at hy
    obtain ⟨p, hp, rfl⟩ := Option.map_eq_some_iff.1 hy
    exact ⟨p.1, by rw [List.getElem?_map, hp]; rfl, i0 p (List.mem_of_getElem? hp)⟩
  · show Rd w w.heap.size 11 A2 (x2.map (·.1)).length (odrsCl (x2.map (·.1)) (x2.map (·.2)))
    unfold odrsCl
    rw [zip_both, List.length_map]
    exact r2
  · have hy : (x2.map (·.1))[k]? = some y := hy
    rw [List.getElem?_map] at hy
    obtain ⟨p, hp, rfl⟩ := Option.map_eq_some_iff.1 hy
    obtain ⟨_, _, A, c, e, r⟩ := i2 p (List.mem_of_getElem? hp)
    exact ⟨A, c, by rw [List.getElem?_map, hp, ← e]; rfl, r⟩
  · have ho : o ∈ x2.map (·.1) := ho
    obtain ⟨p, hp, rfl⟩ := List.mem_map.1 ho
    exact (i2 p hp).2.1
end
end Go.Proofs.YtmbopkcmbiommaaGreatDoor
