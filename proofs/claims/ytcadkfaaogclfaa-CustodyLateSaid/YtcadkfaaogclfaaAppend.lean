/-
  append inside a region that draws its order: copying a slice (onto an empty literal), and one element more.
-/
import Derived.Test.YtcadkfaaogclfaaWords
import Derived.Deep.RegionLawGrows
import Derived.Deep.AppendLies
namespace Go.Proofs.Ytcadkfaaogclfaa
open Go.RowKit

theorem addr_add (b off j : Nat) : (⟨b, off, none⟩ : Addr).add j = ⟨b, off + j, none⟩ := by
  unfold Addr.add
  split
  · rename_i h; subst h; rfl
  · simp

theorem Blk.drew {w : World} {g : Nat} {t : TypeId} {cs : Array Value} (h : Blk w g t cs) : Blk w.drew g t cs := h

/-- append of a slice onto one that is empty and has no room. -/
theorem step_append_new {P : Program} {ops : Array Oper} {o : Oper} {a : Act} {w : World} {K : Act → World → Prop} {Q : Exit → Act → World → Prop} {E : Prop}
    (hgd : o.guard = none) (s x : Operand) (t : TypeId) (ho : o.op = .call { callee := .builtin .append, args := #[s, x], argTypes := #[t, t] })
    (e : TypeId) (z : Value) (size bytes : Nat) (ht : P.underlying t = some (.slice e)) (hinfo : (P.info? e).map (fun i => (i.zero, i.size, i.bytes)) = some (some z, size, bytes)) (hzs : z.cells.size = size) (hsz : 0 < size) (hby : bytes ≤ 4096)
    (ao : Option Addr) (hs : a.eval s = .slice ao 0 0) (B b off m c : Nat) (xs : List Value) (hx : a.eval x = .slice (some ⟨b, off, none⟩) m c) (hA : Rd w B size (some ⟨b, off, none⟩) m xs) (h1 : ∀ u ∈ xs, u.oneCell' = true)
    (hm : 0 < m) (hmm : m ≤ 1000000)
    (hK : ∀ v' w', w'.ownsRow w.heap.size e size v' m xs → Below w.heap.size w w' → K (a.put o.dst v') w') :
    if Region.wanted o (yielded ops a.tmps) = true then Oper.wp P o a w K Q else E := by
  obtain ⟨i0, hi, hz0, hz1, hz2⟩ := info_parts hinfo
  have hbb : (0 + m) * bytes ≤ 1000000 * 4096 := by
    rw [Nat.zero_add]; exact Nat.mul_le_mul hmm hby
  refine step_append_grows hgd s x t ho e i0 z size bytes ht hi hz0 hz1 hz2 hzs hsz ao 0 0 [] hs (fun _ => ⟨rfl, rfl⟩) (by simp) (fun b _ j u h => by simp at h) ⟨b, off, none⟩ m c xs hx hA.1 ?_ h1 (by omega) (by unfold maxLen; omega) (by omega) ?_
  · intro j u hu
    obtain ⟨b', off', he, _, hc⟩ := hA.2 hm
    injection he with he
    injection he with e1 e2
    subst e1; subst e2
    rw [addr_add]
    exact hc j u hu
  · intro v' w' r1 r2
    simp only [Nat.zero_add, List.nil_append] at r1
    exact hK v' w' r1 ((bRefl w).grown r2 (Nat.le_refl _) (fun k e => by cases e))

/-- append of one element, which lies in a block of its own. -/
theorem step_append_last {P : Program} {ops : Array Oper} {o : Oper} {a : Act} {w : World} {K : Act → World → Prop} {Q : Exit → Act → World → Prop} {E : Prop}
    (hgd : o.guard = none) (s x : Operand) (t : TypeId) (ho : o.op = .call { callee := .builtin .append, args := #[s, x], argTypes := #[t, t] })
    (base : Nat) (e : TypeId) (z : Value) (size bytes : Nat) (ht : P.underlying t = some (.slice e)) (hinfo : (P.info? e).map (fun i => (i.zero, i.size, i.bytes)) = some (some z, size, bytes)) (hzs : z.cells.size = size) (hsz : 0 < size) (hby : bytes ≤ 4096)
    (v : Value) (n : Nat) (xs : List Value) (hs : a.eval s = v) (hown : w.ownsRow base e size v n xs) (g : Nat) (te : TypeId) (news : List Value) (hx : a.eval x = .slice (some ⟨g, 0, none⟩) 1 1) (hB : Blk w g te news.toArray) (hl : news.length = size)
    (h1 : ∀ u ∈ news, u.oneCell' = true) (hn : n ≤ 1000000) (hbase : base ≤ w.heap.size)
    (hK : ∀ A c w', Rd w' w'.heap.size size A (n + 1) (xs ++ news) → Below base w w' → K (a.put o.dst (.slice A (n + 1) c)) w') :
    if Region.wanted o (yielded ops a.tmps) = true then Oper.wp P o a w K Q else E := by
  obtain ⟨i0, hi, hz0, hz1, hz2⟩ := info_parts hinfo
  have hbb : (n + 1) * bytes ≤ 1000001 * 4096 := Nat.mul_le_mul (by omega) hby
  refine step_append_lies w hgd s x t ho base e i0 z size bytes ht hi hz0 hz1 hz2 hzs hsz v n xs hs hown ⟨g, 0, none⟩ 1 1 news hx (by omega) ?_ h1 (by omega) (by unfold maxLen; omega) (by omega) hbase _ rfl ?_
  · intro j u hu
    rw [addr_add, Nat.zero_add, hB.cell j]
    simpa using hu
  · intro g' cap w' hown' hgrow _ _
    obtain ⟨A, c, he, hr⟩ := Rd.of_own hown'
    injection he with e1 e2 e3
    subst e1
    exact hK _ cap w' hr ((Below.refl _ _).grown hgrow hbase (fun k hk => (hown.lt k hk).1))

end Go.Proofs.Ytcadkfaaogclfaa
