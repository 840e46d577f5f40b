/-
  Stores into the row that a slice owns.
-/
import Derived.Test.YtmbopkcmbiommaaGreatDoorMat
namespace Go.Proofs.YtmbopkcmbiommaaGreatDoor
open Go Go.RowKit

/-- The slice owns the row g. -/
def OwnAt (w : World) (base : Nat) (e : TypeId) (size g n cap : Nat) (xs : List Value) : Prop := w.ownsRow base e size (.slice (some ⟨g, 0, none⟩) n cap) n xs
theorem OwnAt.parts {w : World} {base : Nat} {e : TypeId} {size g n cap : Nat} {xs : List Value} (h : w.ownsRow base e size (.slice (some ⟨g, 0, none⟩) n cap) n xs) :
    xs.length = n * size ∧ base ≤ g ∧ ∃ cur, Blk w g e cur ∧ n ≤ cap ∧ cap ≤ maxLen ∧ cur.size = cap * size ∧ cur.toList.take (n * size) = xs := by
  obtain ⟨h1, h2⟩ := h
  refine ⟨h1, ?_⟩
  rcases h2 with ⟨h2, _⟩ | ⟨g', cap', cur, hv, hb, hh, r1, r2, r3, r4⟩
  · cases h2
  · injection hv with e1 _ e3
    injection e1 with e1
    injection e1 with e1
    subst e1; subst e3
    exact ⟨hb, cur, hh, r1, r2, r3, r4⟩
theorem own_cell {w : World} {base : Nat} {e : TypeId} {size g n cap : Nat} {xs : List Value} (h : w.ownsRow base e size (.slice (some ⟨g, 0, none⟩) n cap) n xs) {i : Nat} {u : Value} (hi : xs[i]? = some u) : w.cell? ⟨g, i, none⟩ = some u := by
  obtain ⟨h1, h2, cur, hB, h3, h4, h5, h6⟩ := OwnAt.parts h
  rw [hB.cell i]
  rw [← h6, List.getElem?_take] at hi
  split at hi
  · simpa using hi
  · cases hi
theorem own_set {w : World} {base : Nat} {e : TypeId} {size g n cap : Nat} {xs : List Value} (h : w.ownsRow base e size (.slice (some ⟨g, 0, none⟩) n cap) n xs) (i : Nat) (u : Value) :
    (w.setCell ⟨g, i, none⟩ u).ownsRow base e size (.slice (some ⟨g, 0, none⟩) n cap) n (xs.set i u) := by
  obtain ⟨h1, h2, cur, hB, h3, h4, h5, h6⟩ := OwnAt.parts h
  refine ⟨by rw [List.length_set]; exact h1, .inr ⟨g, cap, cur.setIfInBounds i u, rfl, h2, hB.set_ i u, h3, h4, by simpa using h5, ?_⟩⟩
  rw [← h6, Array.toList_setIfInBounds, List.take_set]
theorem own_frozen {w : World} {base : Nat} {e : TypeId} {size g n cap : Nat} {xs : List Value} (h : w.ownsRow base e size (.slice (some ⟨g, 0, none⟩) n cap) n xs) (i : Nat) : w.frozen? ⟨g, i, none⟩ = false := by
  obtain ⟨h1, h2, cur, hB, _⟩ := OwnAt.parts h
  exact hB.frozen i
/-- A row stays when a row of another type grows. -/
theorem ownsRow_grew {w w' : World} {base base' : Nat} {e e' : TypeId} {size size' n n' : Nat} {v u u' : Value} {xs xs' : List Value} (h : w.ownsRow base e size v n xs) (hown : w.ownsRow base' e' size' u n' xs') (hg : Grew w w' u u') (hne : e ≠ e') : w'.ownsRow base e size v n xs := by
  obtain ⟨h1, h2⟩ := h
  refine ⟨h1, ?_⟩
  rcases h2 with h2 | ⟨g, cap, cur, hv, hgb, hh, r⟩
  · exact .inl h2
  · exact .inr ⟨g, cap, cur, hv, hgb, Grew.blk hg hown hh hne, r⟩
theorem ownsRow_setB {w : World} {base g i : Nat} {e t : TypeId} {size n : Nat} {v u : Value} {xs : List Value} {cs : Array Value} (h : w.ownsRow base e size v n xs) (hB : Blk w g t cs) (hne : t ≠ e) : (w.setCell ⟨g, i, none⟩ u).ownsRow base e size v n xs := by
  obtain ⟨h1, h2⟩ := h
  refine ⟨h1, ?_⟩
  rcases h2 with h2 | ⟨g', cap, cur, hv, hgb, hh, r⟩
  · exact .inl h2
  · refine .inr ⟨g', cap, cur, hv, hgb, (Below.heap_setCell _ _ _ _ ?_).trans hh, r⟩
    intro e2
    have e3 : g' = g := e2
    subst e3
    unfold Blk at hB
    rw [hB] at hh
    simp at hh
    exact hne hh.2
end Go.Proofs.YtmbopkcmbiommaaGreatDoor

/-
  Slices that begin where a block of their type begins.
-/
namespace Go.Proofs.YtmbopkcmbiommaaGreatDoor
open Go Go.RowKit

/-- A slice that begins where a block of its type begins. -/
def RdT (w : World) (T : TypeId) (sz : Nat) (A : Option Addr) (n : Nat) (xs : List Value) : Prop := xs.length = n * sz ∧ (0 < n → ∃ b cs, A = some ⟨b, 0, none⟩ ∧ Blk w b T cs ∧ ∀ (j : Nat) (u : Value), xs[j]? = some u → cs[j]? = some u)
theorem RdT.rd {w : World} {T : TypeId} {sz n : Nat} {A : Option Addr} {xs : List Value} (h : RdT w T sz A n xs) : Rd w w.heap.size sz A n xs :=
  ⟨h.1, fun h0 => by obtain ⟨b, cs, e, B, hc⟩ := h.2 h0; exact ⟨b, 0, e, B.lt, fun j u hu => by rw [Nat.zero_add, B.cell]; exact hc j u hu⟩⟩
theorem RdT.of_blk {w : World} {T : TypeId} {sz n g : Nat} {xs : List Value} (h : Blk w g T xs.toArray) (hl : xs.length = n * sz) : RdT w T sz (some ⟨g, 0, none⟩) n xs :=
  ⟨hl, fun _ => ⟨g, _, rfl, h, fun j u hu => by rw [List.getElem?_toArray]; exact hu⟩⟩
theorem RdT.of_own {w : World} {base sz n c : Nat} {e : TypeId} {A : Option Addr} {xs : List Value} (h : w.ownsRow base e sz (.slice A n c) n xs) : RdT w e sz A n xs := by
  refine ⟨h.1, fun h0 => ?_⟩
  rcases h.2 with ⟨_, h2⟩ | ⟨g, cap, cur, hv, _, hg, _, _, _, htk⟩
  · omega
  · injection hv with hv
    refine ⟨g, cur, hv, hg, fun j u hu => ?_⟩
    rw [← htk, List.getElem?_take] at hu
    split at hu
    · simpa using hu
    · cases hu
theorem RdT.keep {w w' : World} {T : TypeId} {sz n : Nat} {A : Option Addr} {xs : List Value} (h : RdT w T sz A n xs) (hk : ∀ g cs, Blk w g T cs → Blk w' g T cs) : RdT w' T sz A n xs :=
  ⟨h.1, fun h0 => by obtain ⟨b, cs, e, B, hc⟩ := h.2 h0; exact ⟨b, cs, e, hk _ _ B, hc⟩⟩
end Go.Proofs.YtmbopkcmbiommaaGreatDoor
