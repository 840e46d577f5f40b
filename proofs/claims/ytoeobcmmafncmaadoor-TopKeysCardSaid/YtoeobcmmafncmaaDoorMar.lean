/-
  A region that draws its order, inside a round of a range over an iterator: the mask's rule; and a range whose loop variables lie in new blocks.
-/
import Derived.Test.YtoeobcmmafncmaaDoorMaq
namespace Go.Proofs.YtoeobcmmafncmaaDoor
open Go Go.RowKit

def NoOut (Q : Exit → Act → World → Prop) : Exit → Act → World → Prop
  | .panic _, _, _ => False
  | .outgrown, _, _ => False
  | e, a, w => Q e a w
theorem NoOut.normal {Q : Exit → Act → World → Prop} {a : Act} {w : World} (h : Q .normal a w) : NoOut Q .normal a w := h
theorem NoOut.imp {Q : Exit → Act → World → Prop} : ∀ (e : Exit) (a : Act) (w : World), NoOut Q e a w → Q e a w := fun e a w h => by
  cases e <;> first | exact h | exact (h : False).elim
theorem noOut_lets {Q : Exit → Act → World → Prop} (h : LetsOut (NoOut Q)) : False := by
  obtain ⟨a, w, h⟩ := h
  exact h

def noDefer (ops : Array Oper) : Bool := ops.all fun o => match o.op with | .defer _ => false | _ => true
theorem noDefer_spec {ops : Array Oper} (h : noDefer ops = true) {i : Nat} {o : Oper} (ho : ops[i]? = some o) : ∀ c, o.op ≠ .defer c := by
  intro c e
  unfold noDefer at h
  rw [Array.all_eq_true_iff_forall_mem] at h
  have := h o (Array.mem_of_getElem? ho)
  rw [e] at this
  cases this

section
variable {P : Program} {L n : Nat} {Q : Exit → Act → World → Prop}
theorem oper_round {o : Oper} {a : Act} {w : World} {K K' : Act → World → Prop} (hnd : ∀ c, o.op ≠ .defer c) (hK : ∀ a w, K a w → K' a w) (h : o.wp P a w K (NoOut Q)) : o.wpIn (Fence.wide.inRound L) n P a w K' (NoOut Q) := by
  refine ⟨fun _ _ => trivial, ?_⟩
  rw [show (Fence.wide.inRound L).round = some L from rfl, Oper.semAt_some _ _ _ hnd]
  unfold Oper.wp at h
  revert h
  generalize (execOp a.eval o).run P w = r
  intro h
  cases r with
  | ok x w' =>
    cases x with
    | value v => exact hK _ _ h
    | skip => exact hK _ _ h
    | defer d => exact hK _ _ h
    | enter f args =>
      refine ⟨fun hd => (by cases hd), CallsIn.inRound L (callsIn_wide.2 (Calls.mono h ?_))⟩
      intro e w'' hp
      cases e with
      | returned v => exact hK _ _ hp
      | panicked ch => exact hp
      | outgrown => exact hp
    | row row args =>
      refine ⟨fun hd => (by cases hd), fun c cs _ => ?_⟩
      obtain ⟨v, w'', hr, hs⟩ := h c cs
      exact ⟨v, w'', hK _ _ hr, stepsIn_wide.2 hs⟩
    | _ => exact h.elim
  | halt x w' =>
    cases x with
    | panic v => exact h
    | _ => exact h.elim

theorem wpOps_round {ops : Array Oper} (hnd : noDefer ops = true) : ∀ (l : List Nat) (a : Act) (w : World), wpOps P ops (NoOut Q) l a w → wpOpsIn (Fence.wide.inRound L) n P ops (NoOut Q) l a w
  | [], _, _, h => h
  | i :: l, a, w, h => by
    simp only [wpOps] at h
    simp only [wpOpsIn]
    cases ho : ops[i]? with
    | none => simp only [ho] at h ⊢; exact wpOps_round hnd l a w h
    | some o =>
      simp only [ho] at h ⊢
      split at h
      · rename_i hw
        rw [if_pos hw]
        rcases h with h | h
        · exact oper_round (noDefer_spec hnd ho) (fun a w h => wpOps_round hnd l a w h) h
        · exact (noOut_lets h.2).elim
      · rename_i hw
        rw [if_neg hw]
        exact ⟨fun _ _ => trivial, wpOps_round hnd l _ w h⟩

theorem wpIn_region_any' {id : Nat} {ops : Array Oper} {a : Act} {w : World} (hnd : noDefer ops = true) (hm : P.follows .mixedOrders = true)
    (h : wpAny P .any ops (NoOut Q) ops.size (Array.replicate ops.size false) a w.drew) : (Code.region id ops true).wpIn (Fence.wide.inRound L) n P Q a w := by
  refine Go.wpIn_mono (wpIn_region_draw (Q := NoOut Q) fun t => wpOps_round hnd _ _ _ ?_) NoOut.imp
  simp only [Region.schedule, hm, Bool.true_or, if_true]
  exact wpAny_sound ops.size t _ a _ h

/-- The region, inside a round. -/
theorem wpIn_region_mask {id : Nat} {l : List Oper} {a : Act} {w : World} {n : Nat} (S : World → Prop) (f k : Nat) (m : List Nat) (hm : P.follows .mixedOrders = true) (hB : (untilOk .any l.toArray f k m && noDefer l.toArray) = true)
    (hS : S w.drew)
    (h : wpHeads P l.toArray S (fun a' => wpTailS P l.toArray (NoOut Q) S k (pickT m l) a' w.drew) (pickH m l) a) : (Code.region id l.toArray true).wpIn (Fence.wide.inRound L) n P Q a w := by
  simp only [untilOk, Bool.and_eq_true, decide_eq_true_eq] at hB
  obtain ⟨⟨⟨⟨h1, h2⟩, h3⟩, h4⟩, h5⟩ := hB
  have hl : m.length = l.length := by simpa using h2
  refine wpIn_region_any' h5 hm ?_
  have := heads_any (md := .any) (f := f) (Q := NoOut Q) h1 (fun _ _ _ _ _ h => h) hS (tailsN m) m l 0 _ a hl (fun j _ => by simp) h3 h (fun a' h' => tail_any m k l 0 _ a' w.drew hl (fun j _ => by simp) h4 h')
  have := wpAny_of_until _ _ _ _ this
  rw [mask_len, h2] at this
  exact this
end
theorem wpHeads_pass {P : Program} {ops : Array Oper} {S : World → Prop} {K : Act → Prop} {b : Bool} {o : Oper} {l : List (Bool × Oper)} {a : Act} (hw : Region.wanted o (yielded ops a.tmps) = false)
    (h : wpHeads P ops S K l (a.put o.dst undef)) : wpHeads P ops S K ((b, o) :: l) a := ⟨undef, .inr ⟨hw, rfl⟩, h⟩

/-- A range whose loop variables lie in new blocks. -/
theorem wp_rangeBA {P : Program} {α : Type} {g : Operand} {ps : Array Tmp} {assign body : Code} {Q : Exit → Act → World → Prop} {a : Act} {w : World} (n : Nat)
    {gf : Nat} {lb : Array Value} (hg : a.eval g = .func (.func gf) #[] lb) (eg : ∀ args w, (callFunc gf args).run P w = .ok (.enter gf args) w)
    {encs : α → Array Value} {S Sp : List α → Prop} {N : Nat} (K : Nat → Prop) (hseq : SeqT (fun _ => False) (n + 1) P gf lb encs (Keeps K) S Sp N w) (hK : ∀ k, K k → k < w.heap.size) (hps : ∀ x, (encs x).size = ps.size)
    (base : World) (hb : Below base.heap.size base w) (bl : List α → List (Nat × TypeId × Array Value)) (R : List α → Prop) (bx : Code → List α → List (Nat × TypeId × Array Value)) (Rx : Code → List α → Prop)
    (h0 : Blks w (bl [])) (hR0 : R [])
    (hround : ∀ (l : Nat) (pre : List α) (x : α) (W : World), pre.length < N → Below base.heap.size base W → Blks W (bl pre) → R pre →
      assign.wpIn (Fence.wide.inRound l) n P (Exit.then (fun a₁ W₁ => ∃ nb : List (Nat × TypeId × Array Value), KeepsOthers W W₁ ∧ Keeps K W W₁ ∧ Below base.heap.size base W₁ ∧ Blks W₁ (nb ++ bl pre) ∧
        ∀ (L : Nat) (W2 : World), Below base.heap.size base W2 → Blks W2 (nb ++ bl pre) → body.wpIn (Fence.wide.inRound L) n P (RoundPost K base bl R bx Rx (pre ++ [x]) W2) a₁ W2) (fun _ _ _ => False)) { tmps := (ps.zip (encs x)).foldl (fun t (p, v) => t.setIfInBounds p v) a.tmps, defers := [] } W)
    (hdone : ∀ (D : Nat) (xs : List α) (W : World), base.heap.size ≤ D → S xs → Below base.heap.size base W → Blks W (bl xs) → R xs → W.heap[D]? = some (.deferred (some [])) → Q .normal { a with defers := { target := .collected D, args := #[] } :: a.defers } W)
    (hstop : ∀ (D : Nat) (c : Code) (pre : List α) (W : World), base.heap.size ≤ D → Sp pre → Below base.heap.size base W → Blks W (bx c pre) → Rx c pre → W.heap[D]? = some (.deferred (some [])) → c.wp P Q { a with defers := { target := .collected D, args := #[] } :: a.defers } W) :
    (Code.rangeFunc g ps assign body).wp P Q a w := by
  refine wp_rangeFuncT n hg eg (S := S) (Sp := Sp) (N := N) (w0 := w) (T := fun _ => False) hseq (fun _ h => h.elim) Keeps.trans (Keeps.put hK) (bRefl _) hps
    (fun pre W' => Below base.heap.size base W' ∧ Blks W' (bl pre) ∧ R pre)
    (fun x a₁ pre W' => ∃ nb : List (Nat × TypeId × Array Value), Below base.heap.size base W' ∧ Blks W' (nb ++ bl pre) ∧
      ∀ (L : Nat) (W2 : World), Below base.heap.size base W2 → Blks W2 (nb ++ bl pre) → body.wpIn (Fence.wide.inRound L) n P (RoundPost K base bl R bx Rx (pre ++ [x]) W2) a₁ W2)
    (fun c pre W' => Below base.heap.size base W' ∧ Blks W' (bx c pre) ∧ Rx c pre)
    (fun pre A' B' row h hg hr => ⟨bGrown h.1 hg hb.size hr, Blks.kept hg hr h.2.1, h.2.2⟩)
    (fun x a pre A' B' row h hg hr => by
      obtain ⟨nb, h1, h2, h3⟩ := h
      exact ⟨nb, bGrown h1 hg hb.size hr, Blks.kept hg hr h2, h3⟩)
    (fun c pre A' B' row h hg hr => ⟨bGrown h.1 hg hb.size hr, Blks.kept hg hr h.2.1, h.2.2⟩)
    (fun _ _ _ _ _ ht => ht.elim)
    (fun _ _ _ _ _ _ ht => ht.elim)
    ⟨hb, h0, hR0⟩ ?_ ?_ ?_ ?_
  · intro l pre x W hI hlen
    refine Go.wpIn_mono (hround l pre x W hlen hI.1 hI.2.1 hI.2.2) ?_
    intro e a' w' hp
    cases e with
    | normal =>
      obtain ⟨nb, h1, h2, h3, h4, h5⟩ := hp
      exact ⟨h1, h2, nb, h3, h4, h5⟩
    | _ => exact hp
  · intro l pre x a₁ W hI hlen
    obtain ⟨nb, h1, h2, h3⟩ := hI
    refine Go.wpIn_mono (h3 l W h1 h2) ?_
    intro e a' w' hp
    cases e with
    | normal => exact ⟨hp.1, hp.2.1, hp.2.2.1, hp.2.2.2.1, hp.2.2.2.2⟩
    | ret => exact ⟨hp.1, hp.2.1, hp.2.2.1, hp.2.2.2⟩
    | exit id => exact ⟨hp.1, hp.2.1, hp.2.2.1, hp.2.2.2⟩
    | goto t => exact ⟨hp.1, hp.2.1, hp.2.2.1, hp.2.2.2⟩
    | panic ch => exact hp.elim
    | outgrown => exact hp.elim
  · intro D xs W hD hS hI hd
    exact hdone D xs W (Nat.le_trans hb.size hD) hS hI.1 hI.2.1 hI.2.2 hd
  · intro D c pre W hD hS hI hd
    exact hstop D c pre W (Nat.le_trans hb.size hD) hS hI.1 hI.2.1 hI.2.2 hd
end Go.Proofs.YtoeobcmmafncmaaDoor

/-
  A region that draws, by a mask: the same steps in few words.
-/
namespace Go.Proofs.YtoeobcmmafncmaaDoor
open Go Go.RowKit

section
variable {P : Program} {ops : Array Oper} {Q : Exit → Act → World → Prop} {S : World → Prop} {K : Act → Prop} {o : Oper} {l : List (Bool × Oper)} {a a' : Act} {w w0 : World} {v : Value}
theorem wpHeads_t (h : wpHeads P ops S K l a') (hw : Region.wanted o (yielded ops a.tmps) = true := by rfl)
    (hv : ∀ w, (execOp a.eval o).run P w = .ok (.value v) w := by intro w; go_simp; try with_reducible rfl)
    (ht : a.put o.dst v = a' := by (try simp only [Act.put, List.setIfInBounds_toArray, List.set_cons_zero, List.set_cons_succ]) <;> with_reducible rfl) : wpHeads P ops S K ((false, o) :: l) a := by
  subst ht
  exact wpHeads_cons hw (fun w _ => hv w) h
theorem wpHeads_r (h : wpHeads P ops S K l a') (hw : Region.wanted o (yielded ops a.tmps) = true := by rfl)
    (hv : ∀ w, S w → (execOp a.eval o).run P w = .ok (.value v) w := by intro w hSw; go_simp; try with_reducible rfl)
    (ht : a.put o.dst v = a' := by (try simp only [Act.put, List.setIfInBounds_toArray, List.set_cons_zero, List.set_cons_succ]) <;> with_reducible rfl) : wpHeads P ops S K ((true, o) :: l) a := by
  subst ht
  exact wpHeads_cons hw hv h
theorem wpHeads_p {b : Bool} (h : wpHeads P ops S K l a') (hw : Region.wanted o (yielded ops a.tmps) = false := by rfl)
    (ht : a.put o.dst undef = a' := by (try simp only [Act.put, List.setIfInBounds_toArray, List.set_cons_zero, List.set_cons_succ]) <;> with_reducible rfl) : wpHeads P ops S K ((b, o) :: l) a := by
  subst ht
  exact wpHeads_pass hw h
theorem mask_go {X : Act → World → Prop} {K : Act → World → Prop} {b : Act} (hK : Shut (∀ a w, S w → (S w → X a w) → K a w)) (KS : Hid (∀ w', Below w0.heap.size w0 w' → S w')) (h : X a' w) (ht : b = a' := by (try simp only [Act.put, List.setIfInBounds_toArray, List.set_cons_zero, List.set_cons_succ]) <;> with_reducible rfl)
    (hb : Below w0.heap.size w0 w := by (repeat (first | with_reducible assumption | with_reducible exact bRefl _ | with_reducible refine bDr ?_ | with_reducible refine bAl ?_ _))) : K b w := by
  subst ht
  exact hK.out _ _ (KS.out _ hb) (fun _ => h)
theorem wp_region_maskB {id f n : Nat} {l : List Oper} (KS : Hid (∀ w', Below w0.heap.size w0 w' → S w')) (m : List Nat)
    (h : wpHeads P l.toArray S (fun a' => wpTailS P l.toArray (NoPanic Q) S n (pickT m l) a' w.drew) (pickH m l) a)
    (hm : P.follows .mixedOrders = true := by kernel_rfl) (hB : untilOk .any l.toArray f n m = true := by kernel_rfl)
    (hb : Below w0.heap.size w0 w.drew := by (repeat (first | with_reducible assumption | with_reducible exact bRefl _ | with_reducible refine bDr ?_ | with_reducible refine bAl ?_ _))) : (Code.region id l.toArray true).wp P Q a w :=
  wp_region_mask S f n m hm hB (KS.out _ hb) h
theorem wpIn_region_maskB {L id f k n : Nat} {l : List Oper} (KS : Hid (∀ w', Below w0.heap.size w0 w' → S w')) (m : List Nat)
    (h : wpHeads P l.toArray S (fun a' => wpTailS P l.toArray (NoOut Q) S k (pickT m l) a' w.drew) (pickH m l) a)
    (hm : P.follows .mixedOrders = true := by kernel_rfl) (hB : (untilOk .any l.toArray f k m && noDefer l.toArray) = true := by kernel_rfl)
    (hb : Below w0.heap.size w0 w.drew := by (repeat (first | with_reducible assumption | with_reducible exact bRefl _ | with_reducible refine bDr ?_ | with_reducible refine bAl ?_ _))) : (Code.region id l.toArray true).wpIn (Fence.wide.inRound L) n P Q a w :=
  wpIn_region_mask S f k m hm hB (KS.out _ hb) h
end
end Go.Proofs.YtoeobcmmafncmaaDoor
