/-
  reports.readers: the map of readers; walked.
-/
import Derived.Test.YtmbopkcmbiommaaGreatDoorMbb
import Derived.Test.YtmbopkcmbiommaaGreatDoorMam
import Derived.StringKeys
import Derived.Test.YtmbopkcmbiommaaGreatDoorMac
import Derived.Lib.Split
import Derived.Lib.IndexBytes
namespace Go.Proofs.YtmbopkcmbiommaaGreatDoor
open Go Go.RowKit Go.Maps Go.WideMaps

/-- A map with strings as keys that a call makes. -/
structure SM (P : Program) (k : TypeId) (m : Nat) (W w : World) (b n : Nat) (s : By → Option Value) : Prop where
  mp : ∃ D : DataW Value, w.ownsMap P k heldR b n D ∧ IsMap D ∧ ∀ i : By, ∀ z, D.atKey (.string i) (.held z) = .held ((s i).getD z)
  bl : Below m W w
  old : m ≤ b
section
variable {P : Program} {k e t : TypeId} {W w w' : World} {b n m : Nat} {s : By → Option Value}
theorem SM.made (w : World) (P : Program) (k : TypeId) : SM P k w.heap.size w (w.alloc (.map #[] 0)) w.heap.size 0 (fun _ => none) :=
  ⟨⟨.map [], World.ownsMap_made w P k _, isMap_empty, fun _ _ => rfl⟩, bAl (bRefl w) _, Nat.le_refl _⟩
theorem SM.look (h : SM P k m W w b n s) (hk : P.underlying k = some .string) (ht : P.underlying t = some (.map k e)) {z : Value} (hz : (zeroValue e).run P w = .ok z w)
    {i : ByteArray} (hi : i.size ≤ maxLen) : (Instr.lookup t (.map (some b)) (.string i) false).run P w = .ok ((s i.data.toList).getD z) w := by
  obtain ⟨D, h1, _, h3⟩ := h.mp
  obtain ⟨v, ps, hrun, hv⟩ := h1.lookup (string_keyed hk) ht hz (zd := .held z) rfl (keyOf_string_mk hk hi)
  rw [h3 i.data.toList] at hv
  rw [hrun]
  have : v = (s i.data.toList).getD z := by
    have h4 : (some (DataW.held v, ([] : List MemPlace))) = some (DataW.held ((s i.data.toList).getD z), ps) := hv
    injection h4 with h4
    injection h4 with h4
    injection h4
  rw [this]
theorem SM.store (h : SM P k m W w b n s) (hk : P.underlying k = some .string) (ht : P.underlying t = some (.map k e)) (hn : n < 1000000) (i : ByteArray) (v : Value) (hi : i.size ≤ maxLen) :
    ∃ w', (Instr.mapUpdate t (.map (some b)) (.string i) v).run P w = .ok () w' ∧ SM P k m W w' b (n + 1) (fun j => if j = i.data.toList then some v else s j) := by
  obtain ⟨D, h1, h2, h3⟩ := h.mp
  obtain ⟨w', r1, r2, r3⟩ := h1.update (string_keyed hk) ht (by unfold maxLen; omega) (keyOf_string_mk hk hi) (val := v) (d := .held v) (ps := []) rfl
  refine ⟨w', r1, ⟨_, r2, h2.put _ _, fun j z => ?_⟩, h.bl.grown r3 (by have := h.bl.size; have := h.old; have := h1.lt; omega) (fun q e => by cases e; exact h.old), h.old⟩
  by_cases hj : j = i.data.toList
  · subst hj
    rw [atKey_put_same h2 (k := .string i.data.toList) (by exact trivial)]; simp
  · rw [atKey_put_other (by intro h; injection h with h; exact hj h), h3 j]; simp [hj]
theorem wpList_insert_s {ops : Array Oper} {rest : List Oper} {o : Oper} {a : Act} {Q : Exit → Act → World → Prop}
    (hg : o.guard = none) (mo x v : Operand) (t : TypeId) (hop : o.op = Op.insert t mo x v) (h : SM P k m W w b n s) (hk : P.underlying k = some .string) (ht : P.underlying t = some (.map k e))
    (hm : a.eval mo = .map (some b)) (hn : n < 1000000) (i : ByteArray) (y : Value) (hx : a.eval x = .string i) (hv : a.eval v = y) (hi : i.size ≤ maxLen)
    (hK : ∀ w', SM P k m W w' b (n + 1) (fun j => if j = i.data.toList then some y else s j) → wpList P ops Q rest (a.put o.dst undef) w') :
    wpList P ops Q (o :: rest) a w := by
  refine wpList_plain hg fun K' hK' => ?_
  obtain ⟨w', hrun, r1⟩ := h.store hk ht hn i y hi
  unfold Oper.wp
  simp [execOp, hop, hm, hx, hv, hrun, Result.andThen]
  exact hK' _ _ (hK w' r1)
end
def fnV (f : FuncId) : Value := .func (.func f) #[] #[]
def readerS (i : By) : Option Value := if i = wordN 10 then some (fnV 101) else if i = wordN 9 then some (fnV 100) else if i = wordN 8 then some (fnV 99) else if i = wordN 7 then some (fnV 98) else if i = wordN 6 then some (fnV 97) else if i = wordN 5 then some (fnV 95) else if i = wordN 4 then some (fnV 94) else if i = wordN 3 then some (fnV 93) else if i = wordN 2 then some (fnV 92) else if i = wordN 1 then some (fnV 90) else none
set_option maxRecDepth 100000 in
set_option maxHeartbeats 4000000 in
theorem rep_readers (W : World) : Calls Tryz.prog 57 #[] W (fun r w' => ∃ b, r = .returned (.map (some b)) ∧ Below W.heap.size W w' ∧ ∃ n, SM Tryz.prog 9 W.heap.size W w' b n readerS) := by
  have hmm := @run_makeMap Tryz.prog
  go_enter Tryz.func57, Tryz.ntmps57
  go_wp2_with (refine wpList_insert_s rfl _ _ _ 134 rfl (by first | assumption | exact SM.made W _ _) Tryz.underlying9 Tryz.underlying134 rfl (by omega) _ _ rfl rfl (by decide) ?_; intro w5 hm)
  go_ret
  exact ⟨_, rfl, hm.bl, _, hm⟩
end Go.Proofs.YtmbopkcmbiommaaGreatDoor

/-
  Plain: the library's words for splitting, said anew.
-/
namespace Go.Proofs.YtmbopkcmbiommaaGreatDoor
open Go

theorem byte_first (c : UInt8) : ∀ s : By, (Lib.indexByte s c = -1 ∧ ∀ x ∈ s, x ≠ c) ∨ ∃ a b, s = a ++ c :: b ∧ (∀ x ∈ a, x ≠ c) ∧ Lib.indexByte s c = (a.length : Int)
  | [] => .inl ⟨rfl, fun x h => by cases h⟩
  | y :: s => by
    unfold Lib.indexByte
    by_cases hy : y = c
    · subst hy
      exact .inr ⟨[], s, rfl, fun x h => (by cases h), by rw [if_pos (by simp)]; rfl⟩
    · rw [if_neg (by simpa using hy)]
      rcases byte_first c s with ⟨h1, h2⟩ | ⟨a, b, h1, h2, h3⟩
      · refine .inl ⟨by rw [if_pos (by rw [h1]; rfl)], fun x hx => ?_⟩
        rcases List.mem_cons.1 hx with rfl | hx
        · exact hy
        · exact h2 x hx
      · refine .inr ⟨y :: a, b, by rw [h1]; rfl, fun x hx => ?_, ?_⟩
        · rcases List.mem_cons.1 hx with rfl | hx
          · exact hy
          · exact h2 x hx
        · rw [h3, if_neg (by simp), List.length_cons]; omega
theorem splitK_eq (c : UInt8) : ∀ (n : Nat) (s : By), s.length ≤ n → Lib.splitK [c] 0 (Lib.count s [c]) s = splitC c s := by
  intro n
  induction n with
  | zero =>
    intro s h
    have : s = [] := List.eq_nil_of_length_eq_zero (by omega)
    subst this
    rfl
  | succ n ih =>
    intro s h
    rcases byte_first c s with ⟨h1, h2⟩ | ⟨a, b, rfl, h2, h3⟩
    · rw [Lib.count_miss ((Lib.index_one s c).trans h1), splitC_none h2]; rfl
    · have hi := (Lib.index_one (a ++ c :: b) c).trans h3
      rw [Lib.count_hit (by simp) hi, Nat.add_comm 1, splitC_cons h2]
      unfold Lib.splitK
      rw [if_neg (by rw [hi]; simp), hi]
      have e1 : (a ++ c :: b).drop (a.length + [c].length) = b := by
        rw [List.length_singleton, ← List.drop_drop, List.drop_left]; rfl
      rw [show ((a.length : Int)).toNat = a.length by omega, Nat.add_zero, List.take_left, e1, ih b (by simp at h; omega)]
/-- The pieces of a text behind line feeds. -/
def afterC : By → List By
  | [] => [[]]
  | x :: r => if x = 10 then [10] :: afterC r else match afterC r with
    | [] => [[x]]
    | h :: t => (x :: h) :: t
theorem afterC_none : ∀ {a : By}, (∀ x ∈ a, x ≠ 10) → afterC a = [a]
  | [], _ => rfl
  | x :: a, h => by
    unfold afterC
    rw [if_neg (h x (List.mem_cons_self ..)), afterC_none (fun y hy => h y (List.mem_cons_of_mem _ hy))]
theorem afterC_cons {b : By} : ∀ {a : By}, (∀ x ∈ a, x ≠ 10) → afterC (a ++ 10 :: b) = (a ++ [10]) :: afterC b
  | [], _ => by
    show afterC (10 :: b) = _
    conv => lhs; unfold afterC
    rw [if_pos rfl]; rfl
  | x :: a, h => by
    rw [List.cons_append]
    conv => lhs; unfold afterC
    rw [if_neg (h x (List.mem_cons_self ..)), afterC_cons (fun y hy => h y (List.mem_cons_of_mem _ hy))]
    rfl
theorem splitK_after : ∀ (n : Nat) (s : By), s.length ≤ n → Lib.splitK [10] 1 (Lib.count s [10]) s = afterC s := by
  intro n
  induction n with
  | zero =>
    intro s h
    have : s = [] := List.eq_nil_of_length_eq_zero (by omega)
    subst this
    rfl
  | succ n ih =>
    intro s h
    rcases byte_first 10 s with ⟨h1, h2⟩ | ⟨a, b, rfl, h2, h3⟩
    · rw [Lib.count_miss ((Lib.index_one s 10).trans h1), afterC_none h2]; rfl
    · have hi := (Lib.index_one (a ++ 10 :: b) 10).trans h3
      rw [Lib.count_hit (by simp) hi, Nat.add_comm 1, afterC_cons h2]
      unfold Lib.splitK
      rw [if_neg (by rw [hi]; simp), hi]
      have e1 : (a ++ 10 :: b).drop (a.length + [(10 : UInt8)].length) = b := by
        rw [List.length_singleton, ← List.drop_drop, List.drop_left]; rfl
      have e2 : (a ++ 10 :: b).take (a.length + 1) = a ++ [10] := by
        rw [List.take_length_add_append]; rfl
      rw [show ((a.length : Int)).toNat = a.length by omega, e2, e1, ih b (by simp at h; omega)]
theorem after_flatten : ∀ {l : List By}, (∀ t ∈ l, ∃ a, t = a ++ [10] ∧ ∀ x ∈ a, x ≠ 10) → afterC l.flatten = l ++ [[]]
  | [], _ => rfl
  | t :: l, h => by
    obtain ⟨a, e, ha⟩ := h t (List.mem_cons_self ..)
    rw [List.flatten_cons, e, List.append_assoc, List.singleton_append, afterC_cons ha, after_flatten (fun x hx => h x (List.mem_cons_of_mem _ hx))]
    rfl
end Go.Proofs.YtmbopkcmbiommaaGreatDoor
