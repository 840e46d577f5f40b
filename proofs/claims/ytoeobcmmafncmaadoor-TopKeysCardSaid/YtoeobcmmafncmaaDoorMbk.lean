/-
  A range over an iterator that makes blocks of its own: what is kept are cells; and a range whose loop variables lie in new blocks.
-/
import Derived.Test.YtoeobcmmafncmaaDoorMar
namespace Go.Proofs.YtoeobcmmafncmaaDoor
open Go Go.RowKit

/-- Blocks of cells, among K, lie as they lay. -/
def KeepsC (K : Nat → Prop) (A B : World) : Prop := A.heap.size ≤ B.heap.size ∧ ∀ k t cs fr, K k → A.heap[k]? = some (.cells cs t fr) → B.heap[k]? = A.heap[k]?
theorem KeepsC.refl (K : Nat → Prop) (A : World) : KeepsC K A A := ⟨Nat.le_refl _, fun _ _ _ _ _ _ => rfl⟩
theorem KeepsC.trans {K : Nat → Prop} {A B C : World} (h : KeepsC K A B) (k : KeepsC K B C) : KeepsC K A C :=
  ⟨Nat.le_trans h.1 k.1, fun i t cs fr hi hc => by
    have e := h.2 i t cs fr hi hc
    exact (k.2 i t cs fr hi (e.trans hc)).trans e⟩
theorem KeepsC.put {K : Nat → Prop} (W : World) (l : Nat) (o o' : Obj) (hl : W.heap[l]? = some o) (ho : o.isCells = false) : KeepsC K W (W.putObj l o') :=
  ⟨by simp, fun k t cs fr _ hc => by
    refine World.putObj_heap_other ?_
    intro e; subst e; rw [hl] at hc; cases hc; cases ho⟩
theorem KeepsC.below {K : Nat → Prop} {A B : World} (h : Below A.heap.size A B) : KeepsC K A B :=
  ⟨h.size, fun k _ _ _ _ hc => h.block k (Array.getElem?_eq_some_iff.1 hc).1⟩
theorem KeepsC.set_ {K : Nat → Prop} {A B : World} (h : KeepsC K A B) {p : Addr} (hp : ¬ K p.block) (v : Value) : KeepsC K A (B.setCell p v) :=
  ⟨Nat.le_trans h.1 (by simp [World.setCell]), fun k t cs fr hk hc => (Below.heap_setCell _ _ _ _ (by intro e; exact hp (e ▸ hk))).trans (h.2 k t cs fr hk hc)⟩
theorem KeepsC.blk {K : Nat → Prop} {A B : World} {g : Nat} {t : TypeId} {cs : Array Value} (h : KeepsC K A B) (hg : K g) (b : Blk A g t cs) : Blk B g t cs := (h.2 g _ _ _ hg b).trans b
theorem KeepsC.cell {K : Nat → Prop} {A B : World} (h : KeepsC K A B) {p : Addr} (hp : K p.block) {v : Value} (hv : A.cell? p = some v) : B.cell? p = some v := by
  have hh : ∃ t cs fr, A.heap[p.block]? = some (.cells cs t fr) := by
    unfold World.cell? at hv
    cases ho : A.heap[p.block]? with
    | none => rw [ho] at hv; simp at hv
    | some o =>
      cases o with
      | cells cs t fr => exact ⟨_, _, _, rfl⟩
      | _ => rw [ho] at hv; simp at hv
  obtain ⟨t, cs, fr, hc⟩ := hh
  have e := h.2 _ _ _ _ hp hc
  unfold World.cell? at hv ⊢
  rw [e]; exact hv
theorem KeepsC.rd {K : Nat → Prop} {A B : World} {B0 sz n : Nat} {S : Option Addr} {xs : List Value} (h : KeepsC K A B) (hB : ∀ k, k < B0 → K k) (r : Rd A B0 sz S n xs) : Rd B B0 sz S n xs :=
  ⟨r.1, fun hn => by
    obtain ⟨b, off, e, hb, hc⟩ := r.2 hn
    exact ⟨b, off, e, hb, fun j u hu => h.cell (p := ⟨b, off + j, none⟩) (hB _ hb) (hc j u hu)⟩⟩

/-- What a round comes to. -/
def RoundC {α : Type} (K : Nat → Prop) (base : World) (bl : List α → List (Nat × TypeId × Array Value)) (R : List α → Prop) (bx : Code → List α → List (Nat × TypeId × Array Value)) (Rx : Code → List α → Prop) (xs : List α) (W : World) : Exit → Act → World → Prop
  | .normal, _, W' => KeepsOthers W W' ∧ KeepsC K W W' ∧ Below base.heap.size base W' ∧ Blks W' (bl xs) ∧ R xs
  | .ret, _, W' => KeepsOthers W W' ∧ Below base.heap.size base W' ∧ Blks W' (bx .ret xs) ∧ Rx .ret xs
  | .exit id, _, W' => KeepsOthers W W' ∧ Below base.heap.size base W' ∧ Blks W' (bx (.exit id) xs) ∧ Rx (.exit id) xs
  | .goto t, _, W' => KeepsOthers W W' ∧ Below base.heap.size base W' ∧ Blks W' (bx (.goto t) xs) ∧ Rx (.goto t) xs
  | .panic _, _, _ => False
  | .outgrown, _, _ => False

/-- A range whose loop variables lie in new blocks. -/
theorem wp_rangeC {P : Program} {α : Type} {g : Operand} {ps : Array Tmp} {assign body : Code} {Q : Exit → Act → World → Prop} {a : Act} {w : World} (n : Nat)
    {gf : Nat} {lb : Array Value} (hg : a.eval g = .func (.func gf) #[] lb) (eg : ∀ args w, (callFunc gf args).run P w = .ok (.enter gf args) w)
    {encs : α → Array Value} {S Sp : List α → Prop} {N : Nat} (K : Nat → Prop) (hseq : SeqT (fun _ => False) (n + 1) P gf lb encs (KeepsC K) S Sp N w) (hps : ∀ x, (encs x).size = ps.size)
    (base : World) (hb : Below base.heap.size base w) (bl : List α → List (Nat × TypeId × Array Value)) (R : List α → Prop) (bx : Code → List α → List (Nat × TypeId × Array Value)) (Rx : Code → List α → Prop)
    (h0 : Blks w (bl [])) (hR0 : R [])
    (hround : ∀ (l : Nat) (pre : List α) (x : α) (W : World), pre.length < N → Below base.heap.size base W → Blks W (bl pre) → R pre →
      assign.wpIn (Fence.wide.inRound l) n P (Exit.then (fun a₁ W₁ => ∃ nb : List (Nat × TypeId × Array Value), KeepsOthers W W₁ ∧ KeepsC K W W₁ ∧ Below base.heap.size base W₁ ∧ Blks W₁ (nb ++ bl pre) ∧
        ∀ (L : Nat) (W2 : World), Below base.heap.size base W2 → Blks W2 (nb ++ bl pre) → body.wpIn (Fence.wide.inRound L) n P (RoundC K base bl R bx Rx (pre ++ [x]) W2) a₁ W2) (fun _ _ _ => False)) { tmps := (ps.zip (encs x)).foldl (fun t (p, v) => t.setIfInBounds p v) a.tmps, defers := [] } W)
    (hdone : ∀ (D : Nat) (xs : List α) (W : World), base.heap.size ≤ D → S xs → Below base.heap.size base W → Blks W (bl xs) → R xs → W.heap[D]? = some (.deferred (some [])) → Q .normal { a with defers := { target := .collected D, args := #[] } :: a.defers } W)
    (hstop : ∀ (D : Nat) (c : Code) (pre : List α) (W : World), base.heap.size ≤ D → Sp pre → Below base.heap.size base W → Blks W (bx c pre) → Rx c pre → W.heap[D]? = some (.deferred (some [])) → c.wp P Q { a with defers := { target := .collected D, args := #[] } :: a.defers } W) :
    (Code.rangeFunc g ps assign body).wp P Q a w := by
  refine wp_rangeFuncT n hg eg (S := S) (Sp := Sp) (N := N) (w0 := w) (T := fun _ => False) hseq (fun _ h => h.elim) KeepsC.trans (fun W l o o' _ hl ho _ => KeepsC.put W l o o' hl ho) (bRefl _) hps
    (fun pre W' => Below base.heap.size base W' ∧ Blks W' (bl pre) ∧ R pre)
    (fun x a₁ pre W' => ∃ nb : List (Nat × TypeId × Array Value), Below base.heap.size base W' ∧ Blks W' (nb ++ bl pre) ∧
      ∀ (L : Nat) (W2 : World), Below base.heap.size base W2 → Blks W2 (nb ++ bl pre) → body.wpIn (Fence.wide.inRound L) n P (RoundC K base bl R bx Rx (pre ++ [x]) W2) a₁ W2)
    (fun c pre W' => Below base.heap.size base W' ∧ Blks W' (bx c pre) ∧ Rx c pre)
    (fun pre A' B' row h hg hr => ⟨bGrown h.1 hg hb.size hr, Blks.kept hg hr h.2.1, h.2.2⟩)
    (fun x a pre A' B' row h hg hr => by
      obtain ⟨nb, h1, h2, h3⟩ := h
      exact ⟨nb, bGrown h1 hg hb.size hr, Blks.kept hg hr h2, h3⟩)
    (fun c pre A' B' row h hg hr => ⟨bGrown h.1 hg hb.size hr, Blks.kept hg hr h.2.1, h.2.2⟩)
    (fun _ _ _ _ _ ht => ht.elim)
    (fun _ _ _ _ _ _ ht => ht.elim)
    ⟨hb, h0, hR0⟩ ?_ ?_ ?_ ?_
  · intro l pre x W hI hlen
    refine Go.wpIn_mono (hround l pre x W hlen hI.1 hI.2.1 hI.2.2) ?_
    intro e a' w' hp
    cases e with
    | normal =>
      obtain ⟨nb, h1, h2, h3, h4, h5⟩ := hp
      exact ⟨h1, h2, nb, h3, h4, h5⟩
    | _ => exact hp
  · intro l pre x a₁ W hI hlen
    obtain ⟨nb, h1, h2, h3⟩ := hI
    refine Go.wpIn_mono (h3 l W h1 h2) ?_
    intro e a' w' hp
    cases e with
    | normal => exact ⟨hp.1, hp.2.1, hp.2.2.1, hp.2.2.2.1, hp.2.2.2.2⟩
    | ret => exact ⟨hp.1, hp.2.1, hp.2.2.1, hp.2.2.2⟩
    | exit id => exact ⟨hp.1, hp.2.1, hp.2.2.1, hp.2.2.2⟩
    | goto t => exact ⟨hp.1, hp.2.1, hp.2.2.1, hp.2.2.2⟩
    | panic ch => exact hp.elim
    | outgrown => exact hp.elim
  · intro D xs W hD hS hI hd
    exact hdone D xs W (Nat.le_trans hb.size hD) hS hI.1 hI.2.1 hI.2.2 hd
  · intro D c pre W hD hS hI hd
    exact hstop D c pre W (Nat.le_trans hb.size hD) hS hI.1 hI.2.1 hI.2.2 hd
/-- .. inside which the mark of an elder range stays. -/
theorem wp_rangeCM {P : Program} {α : Type} {g : Operand} {ps : Array Tmp} {assign body : Code} {Q : Exit → Act → World → Prop} {a : Act} {w : World} (n : Nat)
    {gf : Nat} {lb : Array Value} (hg : a.eval g = .func (.func gf) #[] lb) (eg : ∀ args w, (callFunc gf args).run P w = .ok (.enter gf args) w)
    {encs : α → Array Value} {S Sp : List α → Prop} {N : Nat} (K : Nat → Prop) (hseq : SeqT (fun _ => False) (n + 1) P gf lb encs (KeepsC K) S Sp N w) (hps : ∀ x, (encs x).size = ps.size)
    (base : World) (hb : Below base.heap.size base w) (bl : List α → List (Nat × TypeId × Array Value)) (R : List α → Prop) (bx : Code → List α → List (Nat × TypeId × Array Value)) (Rx : Code → List α → Prop)
    (D0 : Nat) (o0 : Obj) (hm0 : w.heap[D0]? = some o0) (hc0 : o0.isCells = false)
    (h0 : Blks w (bl [])) (hR0 : R [])
    (hround : ∀ (l : Nat) (pre : List α) (x : α) (W : World), pre.length < N → Below base.heap.size base W → Blks W (bl pre) → R pre →
      assign.wpIn (Fence.wide.inRound l) n P (Exit.then (fun a₁ W₁ => ∃ nb : List (Nat × TypeId × Array Value), KeepsOthers W W₁ ∧ KeepsC K W W₁ ∧ Below base.heap.size base W₁ ∧ Blks W₁ (nb ++ bl pre) ∧
        ∀ (L : Nat) (W2 : World), Below base.heap.size base W2 → Blks W2 (nb ++ bl pre) → body.wpIn (Fence.wide.inRound L) n P (RoundC K base bl R bx Rx (pre ++ [x]) W2) a₁ W2) (fun _ _ _ => False)) { tmps := (ps.zip (encs x)).foldl (fun t (p, v) => t.setIfInBounds p v) a.tmps, defers := [] } W)
    (hdone : ∀ (D : Nat) (xs : List α) (W : World), base.heap.size ≤ D → S xs → Below base.heap.size base W → Blks W (bl xs) → R xs → W.heap[D]? = some (.deferred (some [])) → W.heap[D0]? = some o0 → D0 < D → Q .normal { a with defers := { target := .collected D, args := #[] } :: a.defers } W)
    (hstop : ∀ (D : Nat) (c : Code) (pre : List α) (W : World), base.heap.size ≤ D → Sp pre → Below base.heap.size base W → Blks W (bx c pre) → Rx c pre → W.heap[D]? = some (.deferred (some [])) → W.heap[D0]? = some o0 → D0 < D → c.wp P Q { a with defers := { target := .collected D, args := #[] } :: a.defers } W) :
    (Code.rangeFunc g ps assign body).wp P Q a w := by
  have hl0 : D0 < w.heap.size := (Array.getElem?_eq_some_iff.1 hm0).1
  have hgm : ∀ {A' B' : World} {row : Option Nat}, A'.heap[D0]? = some o0 → A'.grownBy B' row → (∀ r, row = some r → w.heap.size ≤ r ∧ ∃ o : Obj, A'.heap[r]? = some o ∧ o.isCells = false) → B'.heap[D0]? = some o0 := fun hm hg hr =>
    (hg.block D0 (Array.getElem?_eq_some_iff.1 hm).1 (fun e => by have := (hr D0 e.symm).1; omega)).trans hm
  refine wp_rangeFuncT n hg eg (S := S) (Sp := Sp) (N := N) (w0 := w) (T := fun _ => False) hseq (fun _ h => h.elim) KeepsC.trans (fun W l o o' _ hl ho _ => KeepsC.put W l o o' hl ho) (bRefl _) hps
    (fun pre W' => (Below base.heap.size base W' ∧ Blks W' (bl pre) ∧ R pre) ∧ W'.heap[D0]? = some o0)
    (fun x a₁ pre W' => (∃ nb : List (Nat × TypeId × Array Value), Below base.heap.size base W' ∧ Blks W' (nb ++ bl pre) ∧
      ∀ (L : Nat) (W2 : World), Below base.heap.size base W2 → Blks W2 (nb ++ bl pre) → body.wpIn (Fence.wide.inRound L) n P (RoundC K base bl R bx Rx (pre ++ [x]) W2) a₁ W2) ∧ W'.heap[D0]? = some o0)
    (fun c pre W' => (Below base.heap.size base W' ∧ Blks W' (bx c pre) ∧ Rx c pre) ∧ W'.heap[D0]? = some o0)
    (fun pre A' B' row h hg hr => ⟨⟨bGrown h.1.1 hg hb.size hr, Blks.kept hg hr h.1.2.1, h.1.2.2⟩, hgm h.2 hg hr⟩)
    (fun x a pre A' B' row h hg hr => by
      obtain ⟨⟨nb, h1, h2, h3⟩, h4⟩ := h
      exact ⟨⟨nb, bGrown h1 hg hb.size hr, Blks.kept hg hr h2, h3⟩, hgm h4 hg hr⟩)
    (fun c pre A' B' row h hg hr => ⟨⟨bGrown h.1.1 hg hb.size hr, Blks.kept hg hr h.1.2.1, h.1.2.2⟩, hgm h.2 hg hr⟩)
    (fun _ _ _ _ _ ht => ht.elim)
    (fun _ _ _ _ _ _ ht => ht.elim)
    ⟨⟨hb, h0, hR0⟩, hm0⟩ ?_ ?_ ?_ ?_
  · intro l pre x W hI hlen
    refine Go.wpIn_mono (hround l pre x W hlen hI.1.1 hI.1.2.1 hI.1.2.2) ?_
    intro e a' w' hp
    cases e with
    | normal =>
      obtain ⟨nb, h1, h2, h3, h4, h5⟩ := hp
      exact ⟨h1, h2, ⟨nb, h3, h4, h5⟩, h1.same _ _ hI.2 hc0⟩
    | _ => exact hp
  · intro l pre x a₁ W hI hlen
    obtain ⟨⟨nb, h1, h2, h3⟩, h4⟩ := hI
    refine Go.wpIn_mono (h3 l W h1 h2) ?_
    intro e a' w' hp
    cases e with
    | normal => exact ⟨hp.1, hp.2.1, ⟨hp.2.2.1, hp.2.2.2.1, hp.2.2.2.2⟩, hp.1.same _ _ h4 hc0⟩
    | ret => exact ⟨hp.1, ⟨hp.2.1, hp.2.2.1, hp.2.2.2⟩, hp.1.same _ _ h4 hc0⟩
    | exit id => exact ⟨hp.1, ⟨hp.2.1, hp.2.2.1, hp.2.2.2⟩, hp.1.same _ _ h4 hc0⟩
    | goto t => exact ⟨hp.1, ⟨hp.2.1, hp.2.2.1, hp.2.2.2⟩, hp.1.same _ _ h4 hc0⟩
    | panic ch => exact hp.elim
    | outgrown => exact hp.elim
  · intro D xs W hD hS hI hd
    exact hdone D xs W (Nat.le_trans hb.size hD) hS hI.1.1 hI.1.2.1 hI.1.2.2 hd hI.2 (by omega)
  · intro D c pre W hD hS hI hd
    exact hstop D c pre W (Nat.le_trans hb.size hD) hS hI.1.1 hI.1.2.1 hI.1.2.2 hd hI.2 (by omega)
end Go.Proofs.YtoeobcmmafncmaaDoor
