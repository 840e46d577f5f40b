/-
  Maps that a call makes, in plain words: a map from whole numbers to truth values.
-/
import Derived.Test.YtcadkfaaogclfaaWords
import Derived.Maps.OwnOps
import Derived.Maps.OwnSet
namespace Go.Proofs.Ytcadkfaaogclfaa
open Go.RowKit Go.Maps

/-- Block b is a map of at most n entries that holds s. -/
def BMap (P : Program) (k e : TypeId) (w : World) (b n : Nat) (s : Int → Bool) : Prop :=
  ∃ D : DataW Unit, w.ownsMap P k (plainElem P e) b n D ∧ IsMap D ∧ ∀ i : Int, D.atKey (.int .i64 i) (.lit (.bool false)) = .lit (.bool (s i))

section
variable {P : Program} {k e t : TypeId} {w w' : World} {b n : Nat} {s : Int → Bool}
theorem BMap.made (w : World) (P : Program) (k e : TypeId) : BMap P k e (w.alloc (.map #[] 0)) w.heap.size 0 (fun _ => false) :=
  ⟨.map [], World.ownsMap_made w P k _, isMap_empty, fun _ => rfl⟩
theorem BMap.lt (h : BMap P k e w b n s) : b < w.heap.size := by
  obtain ⟨D, h, _⟩ := h
  exact h.lt
theorem BMap.below (h : BMap P k e w b n s) (hb : Below w.heap.size w w') : BMap P k e w' b n s := by
  have hlt := h.lt
  obtain ⟨D, ⟨es, clock, hm, r⟩, h2⟩ := h
  exact ⟨D, ⟨es, clock, (hb.block b hlt).trans hm, r⟩, h2⟩
theorem BMap.belowN {m : Nat} (h : BMap P k e w b n s) (hb : Below m w w') (hm : b < m) : BMap P k e w' b n s := by
  obtain ⟨D, ⟨es, clock, hm', r⟩, h2⟩ := h
  exact ⟨D, ⟨es, clock, (hb.block b hm).trans hm', r⟩, h2⟩
theorem BMap.far (h : BMap P k e w b n s) {p : Addr} (hp : b ≠ p.block) (u : Value) : BMap P k e (w.setCell p u) b n s := by
  obtain ⟨D, h1, h2⟩ := h
  exact ⟨D, h1.setCell hp u, h2⟩
theorem BMap.grown {row : Option Nat} (h : BMap P k e w b n s) (hg : w.grownBy w' row) (hr : some b ≠ row) : BMap P k e w' b n s := by
  obtain ⟨D, h1, h2⟩ := h
  exact ⟨D, h1.kept hg hr, h2⟩
theorem BMap.same {s' : Int → Bool} (hs : ∀ i, s' i = s i) (h : BMap P k e w b n s) : BMap P k e w b n s' := by
  have : s' = s := funext hs
  rw [this]; exact h
theorem BMap.mono {n' : Nat} (h : BMap P k e w b n s) (hn : n ≤ n') : BMap P k e w b n' s := by
  obtain ⟨D, h1, h2⟩ := h
  exact ⟨D, h1.mono hn, h2⟩
theorem wf_small {i : Int} (h0 : 0 ≤ i) (h1 : i ≤ 9223372036854775807) : (Lit.int .i64 i).wf = true := by
  refine WalkArith.wf_i64 ?_
  omega
theorem BMap.look (h : BMap P k e w b n s) (hk : P.underlying k = some (.int .i64)) (he : P.underlying e = some .bool) (ht : P.underlying t = some (.map k e)) (hz : (zeroValue e).run P w = .ok (.bool false) w)
    {i : Int} (hi : (Lit.int .i64 i).wf = true) : (Instr.lookup t (.map (some b)) (.int .i64 i) false).run P w = .ok (.bool (s i)) w := by
  obtain ⟨D, h1, _, h3⟩ := h
  obtain ⟨v, ps, hrun, hv⟩ := h1.lookup (int_keyed hk) ht hz (plainElem_bool he false) (keyOf_int_mk hk hi)
  rw [h3] at hv
  rw [hrun]
  cases v <;> simp [plainElem, he] at hv
  rw [hv.1]
theorem wpList_put_bool {ops : Array Oper} {rest : List Oper} {o : Oper} {a : Act} {Q : Exit → Act → World → Prop}
    (hg : o.guard = none) (m x v : Operand) (t : TypeId) (hop : o.op = Op.mapUpdate t m x v) (h : BMap P k e w b n s) (hk : P.underlying k = some (.int .i64)) (he : P.underlying e = some .bool) (ht : P.underlying t = some (.map k e))
    (hm : a.eval m = .map (some b)) (hn : n < 1000000) (i : Int) (y : Bool) (hx : a.eval x = .int .i64 i) (hv : a.eval v = .bool y) (hi : (Lit.int .i64 i).wf = true)
    (hK : ∀ w', BMap P k e w' b (n + 1) (fun j => if j = i then y else s j) → w.grownBy w' (some b) → wpList P ops Q rest (a.put o.dst undef) w') :
    wpList P ops Q (o :: rest) a w := by
  obtain ⟨D, h1, h2, h3⟩ := h
  refine wpList_mapUpdate_own w hg m x v t hop k e (int_keyed hk) ht _ b n D hm h1 (by unfold maxLen; omega) _ _ _ hx hv (keyOf_int_mk hk hi) _ [] (plainElem_bool he y) ?_
  intro w' hown hgr
  refine hK w' ⟨_, hown, h2.put _ _, fun j => ?_⟩ hgr
  by_cases hj : j = i
  · subst hj
    rw [atKey_put_same h2 (k := .int .i64 j) (by exact trivial)]
    simp
  · rw [atKey_put_other (by intro h; injection h with _ h; exact hj h), h3]
    simp [hj]
end

end Go.Proofs.Ytcadkfaaogclfaa
