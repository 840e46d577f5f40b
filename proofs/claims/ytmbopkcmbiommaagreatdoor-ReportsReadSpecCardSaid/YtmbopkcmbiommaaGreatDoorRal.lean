/- Maps that a call makes, from whole numbers to whatever values (slices, structs): the values themselves are the datum. -/
import Derived.Test.YtmbopkcmbiommaaGreatDoorRac
import Derived.Maps.OwnOps
import Derived.Maps.OwnSet
import Derived.Test.YtmbopkcmbiommaaGreatDoorRak
set_option maxRecDepth 1000000
set_option maxHeartbeats 16000000
namespace Go.Proofs.YtmbopkcmbiommaaGreatDoor
open Go.RowKit Go.Maps
def heldR (v : Value) : Option (DataW Value × List MemPlace) := some (.held v, [])
def VMap (P : Program) (k : TypeId) (w : World) (b n : Nat) (z : Value) (s : Int → Value) : Prop :=
  ∃ D : DataW Value, w.ownsMap P k heldR b n D ∧ IsMap D ∧ ∀ i : Int, D.atKey (.int .i64 i) (.held z) = .held (s i)
section
variable {P : Program} {k e t : TypeId} {w w' : World} {b n : Nat} {z : Value} {s : Int → Value}
theorem VMap.made (w : World) (P : Program) (k : TypeId) (z : Value) : VMap P k (w.alloc (.map #[] 0)) w.heap.size 0 z (fun _ => z) :=
  ⟨.map [], World.ownsMap_made w P k _, isMap_empty, fun _ => rfl⟩
theorem VMap.lt (h : VMap P k w b n z s) : b < w.heap.size := by
  obtain ⟨D, h, _⟩ := h
  exact h.lt
theorem VMap.belowN {m : Nat} (h : VMap P k w b n z s) (hb : Below m w w') (hm : b < m) : VMap P k w' b n z s := by
  obtain ⟨D, ⟨es, clock, hm', r⟩, h2⟩ := h
  exact ⟨D, ⟨es, clock, (hb.block b hm).trans hm', r⟩, h2⟩
theorem VMap.below (h : VMap P k w b n z s) (hb : Below w.heap.size w w') : VMap P k w' b n z s := h.belowN hb h.lt
theorem VMap.alloc (h : VMap P k w b n z s) (o : Obj) : VMap P k (w.alloc o) b n z s := h.below (bAl (bRefl w) o)
theorem VMap.grown {row : Option Nat} (h : VMap P k w b n z s) (hg : w.grownBy w' row) (hr : some b ≠ row) : VMap P k w' b n z s := by
  obtain ⟨D, h1, h2⟩ := h
  exact ⟨D, h1.kept hg hr, h2⟩
theorem VMap.mono {n' : Nat} (h : VMap P k w b n z s) (hn : n ≤ n') : VMap P k w b n' z s := by
  obtain ⟨D, h1, h2⟩ := h
  exact ⟨D, h1.mono hn, h2⟩
theorem VMap.look (h : VMap P k w b n z s) (hk : P.underlying k = some (.int .i64)) (ht : P.underlying t = some (.map k e)) (hz : (zeroValue e).run P w = .ok z w)
    {i : Int} (hi : (Lit.int .i64 i).wf = true) : (Instr.lookup t (.map (some b)) (.int .i64 i) false).run P w = .ok (s i) w := by
  obtain ⟨D, h1, _, h3⟩ := h
  obtain ⟨v, ps, hrun, hv⟩ := h1.lookup (int_keyed hk) ht hz rfl (keyOf_int_mk hk hi)
  rw [h3] at hv
  rw [hrun]
  have : v = s i := by
    have h4 : (some (DataW.held v, ([] : List MemPlace))) = some (DataW.held (s i), ps) := hv
    injection h4 with h4
    injection h4 with h4
    injection h4
  rw [this]
theorem VMap.store (h : VMap P k w b n z s) (hk : P.underlying k = some (.int .i64)) (ht : P.underlying t = some (.map k e)) (hn : n < 1000000) (i : Int) (v : Value) (hi : (Lit.int .i64 i).wf = true) :
    ∃ w', (Instr.mapUpdate t (.map (some b)) (.int .i64 i) v).run P w = .ok () w' ∧ VMap P k w' b (n + 1) z (fun j => if j = i then v else s j) ∧ w.grownBy w' (some b) := by
  obtain ⟨D, h1, h2, h3⟩ := h
  obtain ⟨w', r1, r2, r3⟩ := h1.update (int_keyed hk) ht (by unfold maxLen; omega) (keyOf_int_mk hk hi) (val := v) (d := .held v) (ps := []) rfl
  refine ⟨w', r1, ⟨_, r2, h2.put _ _, fun j => ?_⟩, r3⟩
  by_cases hj : j = i
  · subst hj
    rw [atKey_put_same h2 (k := .int .i64 j) (by exact trivial)]
    simp
  · rw [atKey_put_other (by intro h; injection h with _ h; exact hj h), h3]
    simp [hj]
end
theorem Blk.grown {w w' : World} {g : Nat} {t : TypeId} {cs : Array Value} {row : Option Nat} (h : Blk w g t cs) (hg : w.grownBy w' row) (hr : some g ≠ row) : Blk w' g t cs := (hg.block g h.lt hr).trans h
end Go.Proofs.YtmbopkcmbiommaaGreatDoor
namespace Go.Proofs.YtmbopkcmbiommaaGreatDoor
open Go Go.RowKit Go.Maps
def FMap (P : Program) (k : TypeId) (w : World) (b n : Nat) (s : Int → Option Value) : Prop :=
  ∃ D : DataW Value, w.ownsMap P k heldR b n D ∧ IsMap D ∧ ∀ i : Int, (∀ z, D.atKey (.int .i64 i) (.held z) = .held ((s i).getD z)) ∧ has D (.int .i64 i) = (s i).isSome
structure FM (P : Program) (k : TypeId) (m : Nat) (W w : World) (b n : Nat) (s : Int → Option Value) : Prop where
  mp : FMap P k w b n s
  bl : Below m W w
  old : m ≤ b
section
variable {P : Program} {k e t : TypeId} {W w w' : World} {b n m : Nat} {s : Int → Option Value}
theorem FM.made (w : World) (P : Program) (k : TypeId) : FM P k w.heap.size w (w.alloc (.map #[] 0)) w.heap.size 0 (fun _ => none) :=
  ⟨⟨.map [], World.ownsMap_made w P k _, isMap_empty, fun _ => ⟨fun _ => rfl, rfl⟩⟩, bAl (bRefl w) _, Nat.le_refl _⟩
theorem FM.look (h : FM P k m W w b n s) (hk : P.underlying k = some (.int .i64)) (ht : P.underlying t = some (.map k e)) {z : Value} (hz : (zeroValue e).run P w = .ok z w)
    {i : Int} (hi : (Lit.int .i64 i).wf = true) : (Instr.lookup t (.map (some b)) (.int .i64 i) true).run P w = .ok (.tuple #[(s i).getD z, .bool (s i).isSome]) w := by
  obtain ⟨D, h1, _, h3⟩ := h.mp
  obtain ⟨v, ps, hrun, hv⟩ := h1.look_ok (int_keyed hk) ht hz (zd := .held z) rfl (keyOf_int_mk hk hi)
  rw [(h3 i).1] at hv
  rw [hrun, (h3 i).2]
  have : v = (s i).getD z := by
    have h4 : (some (DataW.held v, ([] : List MemPlace))) = some (DataW.held ((s i).getD z), ps) := hv
    injection h4 with h4
    injection h4 with h4
    injection h4
  rw [this]
theorem FM.store (h : FM P k m W w b n s) (hk : P.underlying k = some (.int .i64)) (ht : P.underlying t = some (.map k e)) (hn : n < 1000000) (i : Int) (v : Value) (hi : (Lit.int .i64 i).wf = true) :
    ∃ w', (Instr.mapUpdate t (.map (some b)) (.int .i64 i) v).run P w = .ok () w' ∧ FM P k m W w' b (n + 1) (fun j => if j = i then some v else s j) := by
  obtain ⟨D, h1, h2, h3⟩ := h.mp
  obtain ⟨w', r1, r2, r3⟩ := h1.update (int_keyed hk) ht (by unfold maxLen; omega) (keyOf_int_mk hk hi) (val := v) (d := .held v) (ps := []) rfl
  have hlt := h1.lt
  refine ⟨w', r1, ⟨_, r2, h2.put _ _, fun j => ?_⟩, h.bl.grown r3 (by have := h.bl.size; have := h.old; omega) (fun q e => by cases e; exact h.old), h.old⟩
  by_cases hj : j = i
  · subst hj
    refine ⟨fun z => ?_, ?_⟩
    · rw [atKey_put_same h2 (k := .int .i64 j) (by exact trivial)]; simp
    · rw [has_put_same h2 (k := .int .i64 j) (by exact trivial)]; simp
  · refine ⟨fun z => ?_, ?_⟩
    · rw [atKey_put_other (by intro h; injection h with _ h; exact hj h), (h3 j).1]; simp [hj]
    · rw [has_put_other (by intro h; injection h with _ h; exact hj h), (h3 j).2]; simp [hj]
theorem wpList_insert_f {ops : Array Oper} {rest : List Oper} {o : Oper} {a : Act} {Q : Exit → Act → World → Prop}
    (hg : o.guard = none) (mo x v : Operand) (t : TypeId) (hop : o.op = Op.insert t mo x v) (h : FM P k m W w b n s) (hk : P.underlying k = some (.int .i64)) (ht : P.underlying t = some (.map k e))
    (hm : a.eval mo = .map (some b)) (hn : n < 1000000) (i : Int) (y : Value) (hx : a.eval x = .int .i64 i) (hv : a.eval v = y) (hi : (Lit.int .i64 i).wf = true)
    (hK : ∀ w', FM P k m W w' b (n + 1) (fun j => if j = i then some y else s j) → wpList P ops Q rest (a.put o.dst undef) w') :
    wpList P ops Q (o :: rest) a w := by
  refine wpList_plain hg fun K' hK' => ?_
  obtain ⟨w', hrun, r1⟩ := h.store hk ht hn i y hi
  unfold Oper.wp
  simp [execOp, hop, hm, hx, hv, hrun, Result.andThen]
  exact hK' _ _ (hK w' r1)
end
def kindS (i : Int) : Option Value := if i = 4 then some (.func (.func 149) #[] #[]) else if i = 3 then some (.func (.func 149) #[] #[]) else if i = 2 then some (.func (.func 151) #[] #[]) else if i = 1 then some (.func (.func 150) #[] #[]) else none
theorem reg_kinds (i : Int) (W : World) (hi : (Lit.int .i64 i).wf = true) : Calls Tryz.prog 138 #[] W (fun r w' => ∃ b, r = .returned (.map (some b)) ∧ Below W.heap.size W w' ∧ (Instr.lookup 190 (.map (some b)) (.int .i64 i) true).run Tryz.prog w' = .ok (.tuple #[(kindS i).getD .nilFunc, .bool (kindS i).isSome]) w') := by
  have hmm := @run_makeMap Tryz.prog
  go_enter Tryz.func138, Tryz.ntmps138
  go_wp2_with (refine wpList_insert_f rfl _ _ _ 190 rfl (by first | assumption | exact FM.made W _ _) Tryz.underlying3 Tryz.underlying190 rfl (by omega) _ _ rfl rfl (by decide) ?_; intro w5 hm)
  go_ret
  exact ⟨_, rfl, hm.bl, hm.look Tryz.underlying3 Tryz.underlying190 (by kernel_rfl) hi⟩
theorem reg_id (n : Int) (W : World) : Calls Tryz.prog 139 #[.int .i64 n] W (Same (.bool (idB n)) W) := by
  unfold idB btw
  cases h1 : decide (0 ≤ n) <;> cases h2 : decide (n ≤ 1048576)
  all_goals
    go_enter Tryz.func139, Tryz.ntmps139
    go_wp2_with fail
    go_ret
    exact ⟨by simp_all, rfl⟩
theorem reg_span (a b : Int) (W : World) : Calls Tryz.prog 140 #[.int .i64 a, .int .i64 b] W (Same (.bool (spanB a b)) W) := by
  have e : spanB a b = (decide (0 ≤ a) && decide (a < b) && decide (b ≤ 2097152)) := by unfold spanB; rw [Bool.eq_iff_iff]; simp [and_assoc]
  rw [e]
  cases h1 : decide (0 ≤ a) <;> cases h2 : decide (a < b) <;> cases h3 : decide (b ≤ 2097152)
  all_goals
    go_enter Tryz.func140, Tryz.ntmps140
    go_wp2_with fail
    go_ret
    exact ⟨by simp_all, rfl⟩
theorem reg_f1 (a b : Int) (W : World) : Calls Tryz.prog 150 #[.int .i64 a, .int .i64 b] W (Same (.bool (blw b 24)) W) := by
  unfold blw
  cases h1 : decide (0 ≤ b) <;> cases h2 : decide (b < 24)
  all_goals
    go_enter Tryz.func150, Tryz.ntmps150
    go_wp2_with fail
    go_ret
    exact ⟨by simp_all, rfl⟩
theorem reg_f3 (a b : Int) (W : World) : Calls Tryz.prog 149 #[.int .i64 a, .int .i64 b] W (Same (.bool (decide (b = 0))) W) := by
  go_enter Tryz.func149, Tryz.ntmps149
  go_wp2_with fail
  go_ret
  exact ⟨ret_bool (by by_cases h : b = 0 <;> simp [h]), rfl⟩
theorem reg_f2 (a b : Int) (W : World) : Calls Tryz.prog 151 #[.int .i64 a, .int .i64 b] W (Same (.bool (decide (a ≠ b) && idB b)) W) := by
  have q := reg_id b W
  generalize idB b = v at *
  by_cases h : a = b
  · subst h
    clear q
    go_enter Tryz.func151, Tryz.ntmps151
    go_wp2_with fail
    go_ret
    exact ⟨ret_bool (by simp), rfl⟩
  · have hne : (a != b) = true := by simpa using h
    go_enter Tryz.func151, Tryz.ntmps151
    go_wp2_with fail
    (with_reducible refine q.mono ?_)
    rintro e w3 ⟨rfl, rfl⟩
    go_wp2_with fail
    go_ret
    exact ⟨ret_bool (by simp [h]), rfl⟩
end Go.Proofs.YtmbopkcmbiommaaGreatDoor
