/-
  Slices cut: their first elements, their cells, their room.
-/
import Derived.Test.YtcadkfaaogclfaaOpen
namespace Go.Proofs.Ytcadkfaaogclfaa
open Go.RowKit Go.Deep

theorem Rd.pre {w : World} {B sz n : Nat} {A : Option Addr} {xs : List Value} (h : Rd w B sz A n xs) (k : Nat) (hk : k ≤ n) : Rd w B sz A k (xs.take (k * sz)) := by
  refine ⟨?_, fun h0 => ?_⟩
  · rw [List.length_take, h.1]
    exact Nat.min_eq_left (Nat.mul_le_mul_right _ hk)
  · obtain ⟨b, off, e, hb, hc⟩ := h.2 (by omega)
    refine ⟨b, off, e, hb, fun j u hu => hc j u ?_⟩
    rw [List.getElem?_take] at hu
    split at hu
    · exact hu
    · cases hu
theorem flat_take {α : Type} {f : α → List Value} {sz : Nat} (hf : ∀ x, (f x).length = sz) : ∀ (l : List α) (k : Nat), (l.take k).flatMap f = (l.flatMap f).take (k * sz)
  | [], k => by simp
  | x :: l, 0 => by simp
  | x :: l, k + 1 => by
    rw [List.take_succ_cons, List.flatMap_cons, List.flatMap_cons, flat_take hf l k, Nat.succ_mul, List.take_append, hf]
    congr 1
    · rw [List.take_of_length_le (by rw [hf]; omega)]
    · congr 1
      omega
theorem flat_drop {α : Type} {f : α → List Value} {sz : Nat} (hf : ∀ x, (f x).length = sz) : ∀ (l : List α) (k : Nat), (l.drop k).flatMap f = (l.flatMap f).drop (k * sz)
  | [], k => by simp
  | x :: l, 0 => by simp
  | x :: l, k + 1 => by
    rw [List.drop_succ_cons, List.flatMap_cons, flat_drop hf l k, Nat.succ_mul, List.drop_append, hf]
    have e1 : (f x).drop (k * sz + sz) = [] := List.drop_of_length_le (by rw [hf]; omega)
    have e2 : k * sz + sz - sz = k * sz := by omega
    rw [e1, e2, List.nil_append]
/-- The room of a slice that came in. -/
theorem open_cap {H : Type} {enc : TypeId × Value → H} {P : Program} {w : World} {base : Nat} {spare : Nat → Bool} {held : Bool} {t e : TypeId} {fuel : Nat} {A : Option Addr} {n c : Nat} {x : DataW H × List MemPlace} (ht : P.underlying t = some (.slice e))
    (h : DataW.trod enc P w base spare held fuel t [.slice A n c] = some x) : n ≤ c ∧ c ≤ maxLen := by
  rcases open_slice ht h with ⟨he, _⟩ | ⟨a, len, cap, m, n', D, Pl, he, hb, hl, hm, hmm, rfl, hx⟩
  · injection he with he
    injection he with h1 h2 h3
    subst h2; subst h3
    exact ⟨Nat.le_refl _, Nat.zero_le _⟩
  · injection he with he
    injection he with h1 h2 h3
    subst h2; subst h3
    exact ⟨hl, hm⟩

end Go.Proofs.Ytcadkfaaogclfaa
