/-
  Maps that a call makes, in plain words: a map from whole numbers to truth values.
-/
import Derived.Test.YtmbopkcmbiommaaGreatDoorMac
import Derived.Maps.OwnOps
import Derived.Maps.OwnSet
namespace Go.Proofs.YtmbopkcmbiommaaGreatDoor
open Go.RowKit Go.Maps

/-- Block b is a map of at most n entries that holds s. -/
def BMap (P : Program) (k e : TypeId) (w : World) (b n : Nat) (s : Int → Bool) : Prop :=
  ∃ D : DataW Unit, w.ownsMap P k (plainElem P e) b n D ∧ IsMap D ∧ ∀ i : Int, D.atKey (.int .i64 i) (.lit (.bool false)) = .lit (.bool (s i))

section
variable {P : Program} {k e t : TypeId} {w w' : World} {b n : Nat} {s : Int → Bool}
theorem BMap.made (w : World) (P : Program) (k e : TypeId) : BMap P k e (w.alloc (.map #[] 0)) w.heap.size 0 (fun _ => false) :=
  ⟨.map [], World.ownsMap_made w P k _, isMap_empty, fun _ => rfl⟩
theorem BMap.lt (h : BMap P k e w b n s) : b < w.heap.size := by
  obtain ⟨D, h, _⟩ := h
  exact h.lt
theorem BMap.below (h : BMap P k e w b n s) (hb : Below w.heap.size w w') : BMap P k e w' b n s := by
  have hlt := h.lt
  obtain ⟨D, ⟨es, clock, hm, r⟩, h2⟩ := h
  exact ⟨D, ⟨es, clock, (hb.block b hlt).trans hm, r⟩, h2⟩
theorem BMap.belowN {m : Nat} (h : BMap P k e w b n s) (hb : Below m w w') (hm : b < m) : BMap P k e w' b n s := by
  obtain ⟨D, ⟨es, clock, hm', r⟩, h2⟩ := h
  exact ⟨D, ⟨es, clock, (hb.block b hm).trans hm', r⟩, h2⟩
theorem BMap.far (h : BMap P k e w b n s) {p : Addr} (hp : b ≠ p.block) (u : Value) : BMap P k e (w.setCell p u) b n s := by
  obtain ⟨D, h1, h2⟩ := h
  exact ⟨D, h1.setCell hp u, h2⟩
theorem BMap.grown {row : Option Nat} (h : BMap P k e w b n s) (hg : w.grownBy w' row) (hr : some b ≠ row) : BMap P k e w' b n s := by
  obtain ⟨D, h1, h2⟩ := h
  exact ⟨D, h1.kept hg hr, h2⟩
theorem BMap.same {s' : Int → Bool} (hs : ∀ i, s' i = s i) (h : BMap P k e w b n s) : BMap P k e w b n s' := by
  have : s' = s := funext hs
  rw [this]; exact h
theorem BMap.mono {n' : Nat} (h : BMap P k e w b n s) (hn : n ≤ n') : BMap P k e w b n' s := by
  obtain ⟨D, h1, h2⟩ := h
  exact ⟨D, h1.mono hn, h2⟩
theorem wf_small {i : Int} (h0 : 0 ≤ i) (h1 : i ≤ 9223372036854775807) : (Lit.int .i64 i).wf = true := by
  refine WalkArith.wf_i64 ?_
  omega
theorem BMap.look (h : BMap P k e w b n s) (hk : P.underlying k = some (.int .i64)) (he : P.underlying e = some .bool) (ht : P.underlying t = some (.map k e)) (hz : (zeroValue e).run P w = .ok (.bool false) w)
    {i : Int} (hi : (Lit.int .i64 i).wf = true) : (Instr.lookup t (.map (some b)) (.int .i64 i) false).run P w = .ok (.bool (s i)) w := by
  obtain ⟨D, h1, _, h3⟩ := h
  obtain ⟨v, ps, hrun, hv⟩ := h1.lookup (int_keyed hk) ht hz (plainElem_bool he false) (keyOf_int_mk hk hi)
  rw [h3] at hv
  rw [hrun]
  cases v <;> simp [plainElem, he] at hv
  rw [hv.1]
theorem wpList_put_bool {ops : Array Oper} {rest : List Oper} {o : Oper} {a : Act} {Q : Exit → Act → World → Prop}
    (hg : o.guard = none) (m x v : Operand) (t : TypeId) (hop : o.op = Op.mapUpdate t m x v) (h : BMap P k e w b n s) (hk : P.underlying k = some (.int .i64)) (he : P.underlying e = some .bool) (ht : P.underlying t = some (.map k e))
    (hm : a.eval m = .map (some b)) (hn : n < 1000000) (i : Int) (y : Bool) (hx : a.eval x = .int .i64 i) (hv : a.eval v = .bool y) (hi : (Lit.int .i64 i).wf = true)
    (hK : ∀ w', BMap P k e w' b (n + 1) (fun j => if j = i then y else s j) → w.grownBy w' (some b) → wpList P ops Q rest (a.put o.dst undef) w') :
    wpList P ops Q (o :: rest) a w := by
  obtain ⟨D, h1, h2, h3⟩ := h
  refine wpList_mapUpdate_own w hg m x v t hop k e (int_keyed hk) ht _ b n D hm h1 (by unfold maxLen; omega) _ _ _ hx hv (keyOf_int_mk hk hi) _ [] (plainElem_bool he y) ?_
  intro w' hown hgr
  refine hK w' ⟨_, hown, h2.put _ _, fun j => ?_⟩ hgr
  by_cases hj : j = i
  · subst hj
    rw [atKey_put_same h2 (k := .int .i64 j) (by exact trivial)]
    simp
  · rw [atKey_put_other (by intro h; injection h with _ h; exact hj h), h3]
    simp [hj]
end

end Go.Proofs.YtmbopkcmbiommaaGreatDoor

/-
  Maps that a call makes, from whole numbers to whatever values (slices, structs): the values themselves are the datum.
-/
namespace Go.Proofs.YtmbopkcmbiommaaGreatDoor
open Go.RowKit Go.Maps

def heldR (v : Value) : Option (DataW Value × List MemPlace) := some (.held v, [])
/-- Block b is a map of at most n entries that holds s; z is what lies at a key that is not there. -/
def VMap (P : Program) (k : TypeId) (w : World) (b n : Nat) (z : Value) (s : Int → Value) : Prop :=
  ∃ D : DataW Value, w.ownsMap P k heldR b n D ∧ IsMap D ∧ ∀ i : Int, D.atKey (.int .i64 i) (.held z) = .held (s i)

section
variable {P : Program} {k e t : TypeId} {w w' : World} {b n : Nat} {z : Value} {s : Int → Value}
theorem VMap.made (w : World) (P : Program) (k : TypeId) (z : Value) : VMap P k (w.alloc (.map #[] 0)) w.heap.size 0 z (fun _ => z) :=
  ⟨.map [], World.ownsMap_made w P k _, isMap_empty, fun _ => rfl⟩
theorem VMap.lt (h : VMap P k w b n z s) : b < w.heap.size := by
  obtain ⟨D, h, _⟩ := h
  exact h.lt
theorem VMap.belowN {m : Nat} (h : VMap P k w b n z s) (hb : Below m w w') (hm : b < m) : VMap P k w' b n z s := by
  obtain ⟨D, ⟨es, clock, hm', r⟩, h2⟩ := h
  exact ⟨D, ⟨es, clock, (hb.block b hm).trans hm', r⟩, h2⟩
theorem VMap.below (h : VMap P k w b n z s) (hb : Below w.heap.size w w') : VMap P k w' b n z s := h.belowN hb h.lt
theorem VMap.alloc (h : VMap P k w b n z s) (o : Obj) : VMap P k (w.alloc o) b n z s := h.below (bAl (bRefl w) o)
theorem VMap.grown {row : Option Nat} (h : VMap P k w b n z s) (hg : w.grownBy w' row) (hr : some b ≠ row) : VMap P k w' b n z s := by
  obtain ⟨D, h1, h2⟩ := h
  exact ⟨D, h1.kept hg hr, h2⟩
theorem VMap.mono {n' : Nat} (h : VMap P k w b n z s) (hn : n ≤ n') : VMap P k w b n' z s := by
  obtain ⟨D, h1, h2⟩ := h
  exact ⟨D, h1.mono hn, h2⟩
theorem VMap.look (h : VMap P k w b n z s) (hk : P.underlying k = some (.int .i64)) (ht : P.underlying t = some (.map k e)) (hz : (zeroValue e).run P w = .ok z w)
    {i : Int} (hi : (Lit.int .i64 i).wf = true) : (Instr.lookup t (.map (some b)) (.int .i64 i) false).run P w = .ok (s i) w := by
  obtain ⟨D, h1, _, h3⟩ := h
  obtain ⟨v, ps, hrun, hv⟩ := h1.lookup (int_keyed hk) ht hz rfl (keyOf_int_mk hk hi)
  rw [h3] at hv
  rw [hrun]
  have : v = s i := by
    have h4 : (some (DataW.held v, ([] : List MemPlace))) = some (DataW.held (s i), ps) := hv
    injection h4 with h4
    injection h4 with h4
    injection h4
  rw [this]
theorem VMap.store (h : VMap P k w b n z s) (hk : P.underlying k = some (.int .i64)) (ht : P.underlying t = some (.map k e)) (hn : n < 1000000) (i : Int) (v : Value) (hi : (Lit.int .i64 i).wf = true) :
    ∃ w', (Instr.mapUpdate t (.map (some b)) (.int .i64 i) v).run P w = .ok () w' ∧ VMap P k w' b (n + 1) z (fun j => if j = i then v else s j) ∧ w.grownBy w' (some b) := by
  obtain ⟨D, h1, h2, h3⟩ := h
  obtain ⟨w', r1, r2, r3⟩ := h1.update (int_keyed hk) ht (by unfold maxLen; omega) (keyOf_int_mk hk hi) (val := v) (d := .held v) (ps := []) rfl
  refine ⟨w', r1, ⟨_, r2, h2.put _ _, fun j => ?_⟩, r3⟩
  by_cases hj : j = i
  · subst hj
    rw [atKey_put_same h2 (k := .int .i64 j) (by exact trivial)]
    simp
  · rw [atKey_put_other (by intro h; injection h with _ h; exact hj h), h3]
    simp [hj]
/-- An element of a map's literal. -/
theorem wpList_insert_v {ops : Array Oper} {rest : List Oper} {o : Oper} {a : Act} {Q : Exit → Act → World → Prop}
    (hg : o.guard = none) (m x v : Operand) (t : TypeId) (hop : o.op = Op.insert t m x v) (h : VMap P k w b n z s) (hk : P.underlying k = some (.int .i64)) (ht : P.underlying t = some (.map k e))
    (hm : a.eval m = .map (some b)) (hn : n < 1000000) (i : Int) (y : Value) (hx : a.eval x = .int .i64 i) (hv : a.eval v = y) (hi : (Lit.int .i64 i).wf = true)
    (hK : ∀ w', VMap P k w' b (n + 1) z (fun j => if j = i then y else s j) → w.grownBy w' (some b) → wpList P ops Q rest (a.put o.dst undef) w') :
    wpList P ops Q (o :: rest) a w := by
  refine wpList_plain hg fun K' hK' => ?_
  obtain ⟨w', hrun, r1, r2⟩ := h.store hk ht hn i y hi
  unfold Oper.wp
  simp [execOp, hop, hm, hx, hv, hrun, Result.andThen]
  exact hK' _ _ (hK w' r1 r2)
/-- The same by a statement of the program. -/
theorem wpList_put_v {ops : Array Oper} {rest : List Oper} {o : Oper} {a : Act} {Q : Exit → Act → World → Prop}
    (hg : o.guard = none) (m x v : Operand) (t : TypeId) (hop : o.op = Op.mapUpdate t m x v) (h : VMap P k w b n z s) (hk : P.underlying k = some (.int .i64)) (ht : P.underlying t = some (.map k e))
    (hm : a.eval m = .map (some b)) (hn : n < 1000000) (i : Int) (y : Value) (hx : a.eval x = .int .i64 i) (hv : a.eval v = y) (hi : (Lit.int .i64 i).wf = true)
    (hK : ∀ w', VMap P k w' b (n + 1) z (fun j => if j = i then y else s j) → w.grownBy w' (some b) → wpList P ops Q rest (a.put o.dst undef) w') :
    wpList P ops Q (o :: rest) a w := by
  refine wpList_plain hg fun K' hK' => ?_
  obtain ⟨w', hrun, r1, r2⟩ := h.store hk ht hn i y hi
  unfold Oper.wp
  simp [execOp, hop, hm, hx, hv, hrun, Result.andThen]
  exact hK' _ _ (hK w' r1 r2)
end

theorem Blk.grown {w w' : World} {g : Nat} {t : TypeId} {cs : Array Value} {row : Option Nat} (h : Blk w g t cs) (hg : w.grownBy w' row) (hr : some g ≠ row) : Blk w' g t cs := (hg.block g h.lt hr).trans h
theorem Rd.of_blk {w : World} {g B sz n : Nat} {t : TypeId} {xs : List Value} (h : Blk w g t xs.toArray) (hl : xs.length = n * sz) (hB : g < B) : Rd w B sz (some ⟨g, 0, none⟩) n xs :=
  ⟨hl, fun _ => ⟨g, 0, rfl, hB, fun j u hu => by
    rw [Nat.zero_add, h.cell j]
    simpa using hu⟩⟩

end Go.Proofs.YtmbopkcmbiommaaGreatDoor
