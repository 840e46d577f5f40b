/-
  The group's algebra, in plain words: products and powers of elements. No program here.
-/
import Derived.Test.YthgppaiiapkdjaaGreatDoorMan
import Derived.Test.YthgppaiiapkdjaaGreatDoorMak
import Derived.RangeFuncCalls
namespace Go.Proofs.YthgppaiiapkdjaaGreatDoor
open Go.RowKit

/-- An element, as a natural number. -/
def vN (a : Nat) : Prop := 0 < a ∧ a < Pn ∧ powP a Qn = 1
theorem vN_of {a : Int} (h : validB a = true) : ∃ n : Nat, a = n ∧ vN n := by
  obtain ⟨h1, h2, h3⟩ := (validB_iff a).1 h
  obtain ⟨n, rfl⟩ := Int.eq_ofNat_of_zero_le (show 0 ≤ a by omega)
  exact ⟨n, rfl, by omega, by unfold Pn; omega, by simpa using h3⟩
theorem vN_to {n : Nat} (h : vN n) : validB (n : Int) = true := by
  obtain ⟨h1, h2, h3⟩ := h
  unfold Pn at h2
  exact (validB_iff _).2 ⟨by omega, by omega, by simpa using h3⟩
theorem powP_cong {a m n : Nat} (h : vN a) (e : m % Qn = n % Qn) : powP a m = powP a n := by
  have key : ∀ k, powP a k = powP a (k % Qn) := fun k => by
    conv => lhs; rw [← Nat.div_add_mod k Qn]
    rw [powP_add, powP_mul, h.2.2, one_powP, Nat.one_mul]
    exact Nat.mod_eq_of_lt (powP_lt _ _)
  rw [key m, key n, e]
theorem expN_mod (n : Int) : expN n % Qn = expN n := Nat.mod_eq_of_lt (expN_lt n)
theorem expN_add (m n : Int) : expN (m + n) % Qn = (expN m + expN n) % Qn := by
  unfold expN Qn
  omega
theorem expN_mul (m n : Int) : expN (m * n) % Qn = (expN m * expN n) % Qn := by
  unfold expN Qn
  have h : ((m * n % 1073741789).toNat : Int) % 1073741789 = ((m % 1073741789).toNat * (n % 1073741789).toNat : Nat) % 1073741789 := by
    rw [Int.natCast_mul, Int.toNat_of_nonneg (Int.emod_nonneg _ (by omega)), Int.toNat_of_nonneg (Int.emod_nonneg _ (by omega)), Int.toNat_of_nonneg (Int.emod_nonneg _ (by omega)), Int.emod_emod_of_dvd _ (Int.dvd_refl _), Int.mul_emod]
  omega
theorem powV_nat {a : Nat} (h : vN a) (n : Int) : powV (a : Int) n = (powP a (expN n) : Nat) := by
  unfold powV; rw [if_pos (vN_to h), Int.toNat_natCast]
theorem zero_powP {n : Nat} (h : 0 < n) : powP 0 n = 0 := by unfold powP; rw [Nat.zero_pow h]; rfl
theorem emm (a b : Int) : a % 2147483579 * b % 2147483579 = a * b % 2147483579 := by rw [Int.mul_emod, Int.emod_emod_of_dvd _ (Int.dvd_refl _), ← Int.mul_emod]
theorem vN_pow {a : Nat} (h : vN a) (n : Nat) : vN (powP a n) := by
  refine ⟨?_, powP_lt _ _, ?_⟩
  · rcases Nat.eq_zero_or_pos (powP a n) with h0 | h0
    · have h1 : powP (powP a n) Qn = 1 := by rw [← powP_mul, Nat.mul_comm, powP_mul, h.2.2, one_powP]
      rw [h0] at h1
      have : powP 0 Qn = 0 := zero_powP (by decide)
      omega
    · exact h0
  · rw [← powP_mul, Nat.mul_comm, powP_mul, h.2.2, one_powP]
theorem vN_mul {a b : Nat} (ha : vN a) (hb : vN b) : vN (a * b % Pn) := by
  have h1 : powP (a * b % Pn) Qn = 1 := by rw [powP_times, ha.2.2, hb.2.2]; rfl
  refine ⟨?_, Nat.mod_lt _ (by decide), h1⟩
  rcases Nat.eq_zero_or_pos (a * b % Pn) with h0 | h0
  · rw [h0] at h1
    have : powP 0 Qn = 0 := zero_powP (by decide)
    omega
  · exact h0
theorem Pn_int : ((Pn : Nat) : Int) = 2147483579 := rfl

/-- Powers and products of elements, over the whole numbers. -/
theorem valid_pow {a : Int} (h : validB a = true) (n : Int) : validB (powV a n) = true := by
  obtain ⟨x, rfl, hx⟩ := vN_of h
  rw [powV_nat hx]; exact vN_to (vN_pow hx _)
theorem valid_mul {a b : Int} (ha : validB a = true) (hb : validB b = true) : validB (a * b % 2147483579) = true := by
  obtain ⟨x, rfl, hx⟩ := vN_of ha
  obtain ⟨y, rfl, hy⟩ := vN_of hb
  rw [← Pn_int, ← Int.natCast_mul, ← Int.natCast_emod]
  exact vN_to (vN_mul hx hy)
theorem powV_add {a : Int} (h : validB a = true) (m n : Int) : powV a (m + n) = powV a m * powV a n % 2147483579 := by
  obtain ⟨x, rfl, hx⟩ := vN_of h
  rw [powV_nat hx, powV_nat hx, powV_nat hx, powP_cong hx (expN_add m n), powP_add]
  simp [Pn]
theorem powV_mul {a : Int} (h : validB a = true) (m n : Int) : powV (powV a m) n = powV a (m * n) := by
  obtain ⟨x, rfl, hx⟩ := vN_of h
  rw [powV_nat hx, powV_nat hx, powV_nat (vN_pow hx _), powP_cong hx (expN_mul m n), powP_mul]
theorem powV_cong {a : Int} {m n : Int} (e : m % 1073741789 = n % 1073741789) : powV a m = powV a n := by
  unfold powV expN; rw [e]
theorem powV_times {a b : Int} (ha : validB a = true) (hb : validB b = true) (n : Int) : powV (a * b % 2147483579) n = powV a n * powV b n % 2147483579 := by
  obtain ⟨x, rfl, hx⟩ := vN_of ha
  obtain ⟨y, rfl, hy⟩ := vN_of hb
  have : ((x : Int) * y % 2147483579) = ((x * y % Pn : Nat) : Int) := by simp [Pn]
  rw [this, powV_nat (vN_mul hx hy), powV_nat hx, powV_nat hy, powP_times]
  simp [Pn]
theorem powV_zero {a : Int} (h : validB a = true) : powV a 0 = 1 := by
  obtain ⟨x, rfl, hx⟩ := vN_of h
  rw [powV_nat hx]; rfl
theorem powV_one {a : Int} (h : validB a = true) : powV a 1 = a := by
  obtain ⟨x, rfl, hx⟩ := vN_of h
  rw [powV_nat hx]
  have : expN 1 = 1 := rfl
  rw [this, powP_one x hx.2.1]
theorem powV_inv {a : Int} (h : validB a = true) : a * powV a (-1) % 2147483579 = 1 := by
  have h1 := powV_add h 1 (-1)
  rw [powV_one h] at h1
  rw [← h1]; exact powV_zero h
theorem valid_one : validB 1 = true := by
  rw [validB_iff]; exact ⟨by omega, by omega, one_powP _⟩
theorem valid_four : validB 4 = true := by
  rw [validB_iff]
  refine ⟨by omega, by omega, ?_⟩
  show powP 4 Qn = 1
  rw [powP_fast (by decide)]; decide +kernel
theorem mulV_eq {a b : Int} (ha : validB a = true) (hb : validB b = true) : mulV a b = a * b % 2147483579 := (mulV_yes ha hb).1
theorem valid_mulV {a b : Int} (ha : validB a = true) (hb : validB b = true) : validB (mulV a b) = true := by rw [mulV_eq ha hb]; exact valid_mul ha hb
theorem modP {a : Int} (h : validB a = true) : a % 2147483579 = a := by
  obtain ⟨h1, h2⟩ := validB_rng h
  exact Int.emod_eq_of_lt (by omega) h2
theorem timesL_two (a b : Int) : timesL [a, b] = a * b % 2147483579 := by
  show 1 * a % 2147483579 * b % 2147483579 = _
  rw [Int.one_mul, emm]
theorem mulL_two {a b : Int} (ha : validB a = true) (hb : validB b = true) : mulL [a, b] = a * b % 2147483579 := by
  unfold mulL
  simp only [List.foldl]
  rw [mulV_eq valid_one ha, Int.one_mul, modP ha, mulV_eq ha hb]
/-- What one has multiplied, can be taken off. -/
theorem cancel_mul {a x y : Int} (ha : validB a = true) (hx : validB x = true) (hy : validB y = true) (h : x * a % 2147483579 = y * a % 2147483579) : x = y := by
  have h1 : (x * a % 2147483579) * powV a (-1) % 2147483579 = (y * a % 2147483579) * powV a (-1) % 2147483579 := by rw [h]
  have key : ∀ z, (z * a % 2147483579) * powV a (-1) % 2147483579 = z % 2147483579 := fun z => by
    rw [emm, Int.mul_assoc, Int.mul_emod, powV_inv ha, Int.mul_one, Int.emod_emod_of_dvd _ (Int.dvd_refl _)]
  rw [key, key, modP hx, modP hy] at h1
  exact h1
end Go.Proofs.YthgppaiiapkdjaaGreatDoor

/-
  A range over an iterator that writes nothing: the loop's state is a list of blocks, known whole, and a word on what has been yielded.
-/
namespace Go.Proofs.YthgppaiiapkdjaaGreatDoor
open Go.RowKit

/-- A contract, inside a round. -/
theorem inR {n : Nat} {P : Program} {f : FuncId} {args : Array Value} {w : World} {R : Ending → World → Prop} (L : Nat) (h : Calls P f args w R) : CallsIn (Fence.wide.inRound L) n P f args w R := (callsIn_wide.2 h).inRound L

/-- Blocks that are known whole. -/
def Blks (W : World) : List (Nat × TypeId × Array Value) → Prop
  | [] => True
  | x :: l => Blk W x.1 x.2.1 x.2.2 ∧ Blks W l
theorem Blks.kept {W W' : World} {row : Option Nat} {B : Nat} (hg : W.grownBy W' row) (hr : ∀ r, row = some r → B ≤ r ∧ ∃ o : Obj, W.heap[r]? = some o ∧ o.isCells = false) : ∀ {l : List (Nat × TypeId × Array Value)}, Blks W l → Blks W' l
  | [], _ => trivial
  | _ :: _, h => ⟨h.1.kept hg hr, Blks.kept hg hr h.2⟩
theorem Blks.put {W : World} {D : Nat} {o o' : Obj} (hD : W.heap[D]? = some o) (ho : o.isCells = false) : ∀ {l : List (Nat × TypeId × Array Value)}, Blks W l → Blks (W.putObj D o') l
  | [], _ => trivial
  | _ :: _, h => ⟨h.1.put hD ho, Blks.put hD ho h.2⟩

/-- What a round comes to. -/
def RoundPost {α : Type} (K : Nat → Prop) (base : World) (bl : List α → List (Nat × TypeId × Array Value)) (R : List α → Prop) (bx : Code → List α → List (Nat × TypeId × Array Value)) (Rx : Code → List α → Prop) (xs : List α) (W : World) : Exit → Act → World → Prop
  | .normal, _, W' => KeepsOthers W W' ∧ Keeps K W W' ∧ Below base.heap.size base W' ∧ Blks W' (bl xs) ∧ R xs
  | .ret, _, W' => KeepsOthers W W' ∧ Below base.heap.size base W' ∧ Blks W' (bx .ret xs) ∧ Rx .ret xs
  | .exit id, _, W' => KeepsOthers W W' ∧ Below base.heap.size base W' ∧ Blks W' (bx (.exit id) xs) ∧ Rx (.exit id) xs
  | .goto t, _, W' => KeepsOthers W W' ∧ Below base.heap.size base W' ∧ Blks W' (bx (.goto t) xs) ∧ Rx (.goto t) xs
  | .panic _, _, _ => False
  | .outgrown, _, _ => False

theorem wp_rangeB {P : Program} {α : Type} {g : Operand} {ps : Array Tmp} {assign body : Code} {Q : Exit → Act → World → Prop} {a : Act} {w : World} (n : Nat)
    {gf : Nat} {lb : Array Value} (hg : a.eval g = .func (.func gf) #[] lb) (eg : ∀ args w, (callFunc gf args).run P w = .ok (.enter gf args) w)
    {encs : α → Array Value} {S Sp : List α → Prop} {N : Nat} (K : Nat → Prop) (hseq : SeqT (fun _ => False) (n + 1) P gf lb encs (Keeps K) S Sp N w) (hK : ∀ k, K k → k < w.heap.size) (hps : ∀ x, (encs x).size = ps.size)
    (base : World) (hb : Below base.heap.size base w) (bl : List α → List (Nat × TypeId × Array Value)) (R : List α → Prop) (bx : Code → List α → List (Nat × TypeId × Array Value)) (Rx : Code → List α → Prop)
    (h0 : Blks w (bl [])) (hR0 : R [])
    (hround : ∀ (l : Nat) (pre : List α) (x : α) (W : World), pre.length < N →
      assign.wpIn (Fence.wide.inRound l) n P (Exit.then (fun a₁ W₁ => W = W₁ ∧ ∀ (L : Nat) (W2 : World), Below base.heap.size base W2 → Blks W2 (bl pre) → R pre → body.wpIn (Fence.wide.inRound L) n P (RoundPost K base bl R bx Rx (pre ++ [x]) W2) a₁ W2) (fun _ _ _ => False)) { tmps := (ps.zip (encs x)).foldl (fun t (p, v) => t.setIfInBounds p v) a.tmps, defers := [] } W)
    (hdone : ∀ (D : Nat) (xs : List α) (W : World), base.heap.size ≤ D → S xs → Below base.heap.size base W → Blks W (bl xs) → R xs → W.heap[D]? = some (.deferred (some [])) → Q .normal { a with defers := { target := .collected D, args := #[] } :: a.defers } W)
    (hstop : ∀ (D : Nat) (c : Code) (pre : List α) (W : World), base.heap.size ≤ D → Sp pre → Below base.heap.size base W → Blks W (bx c pre) → Rx c pre → W.heap[D]? = some (.deferred (some [])) → c.wp P Q { a with defers := { target := .collected D, args := #[] } :: a.defers } W) :
    (Code.rangeFunc g ps assign body).wp P Q a w := by
  refine wp_rangeFuncT n hg eg (S := S) (Sp := Sp) (N := N) (w0 := w) (T := fun _ => False) hseq (fun _ h => h.elim) Keeps.trans (Keeps.put hK) (bRefl _) hps
    (fun pre W' => Below base.heap.size base W' ∧ Blks W' (bl pre) ∧ R pre)
    (fun x a₁ pre W' => (Below base.heap.size base W' ∧ Blks W' (bl pre) ∧ R pre) ∧ ∀ (L : Nat) (W2 : World), Below base.heap.size base W2 → Blks W2 (bl pre) → R pre → body.wpIn (Fence.wide.inRound L) n P (RoundPost K base bl R bx Rx (pre ++ [x]) W2) a₁ W2)
    (fun c pre W' => Below base.heap.size base W' ∧ Blks W' (bx c pre) ∧ Rx c pre)
    (fun pre A' B' row h hg hr => ⟨bGrown h.1 hg hb.size hr, Blks.kept hg hr h.2.1, h.2.2⟩)
    (fun x a pre A' B' row h hg hr => ⟨⟨bGrown h.1.1 hg hb.size hr, Blks.kept hg hr h.1.2.1, h.1.2.2⟩, h.2⟩)
    (fun c pre A' B' row h hg hr => ⟨bGrown h.1 hg hb.size hr, Blks.kept hg hr h.2.1, h.2.2⟩)
    (fun _ _ _ _ _ ht => ht.elim)
    (fun _ _ _ _ _ _ ht => ht.elim)
    ⟨hb, h0, hR0⟩ ?_ ?_ ?_ ?_
  · intro l pre x W hI hlen
    refine wpIn_mono (hround l pre x W hlen) ?_
    intro e a' w' hp
    cases e with
    | normal =>
      obtain ⟨rfl, hp⟩ := hp
      exact ⟨KeepsOthers.refl _, Keeps.refl _ _, hI, hp⟩
    | _ => exact hp
  · intro l pre x a₁ W hI hlen
    refine wpIn_mono (hI.2 l W hI.1.1 hI.1.2.1 hI.1.2.2) ?_
    intro e a' w' hp
    cases e with
    | normal => exact ⟨hp.1, hp.2.1, hp.2.2.1, hp.2.2.2.1, hp.2.2.2.2⟩
    | ret => exact ⟨hp.1, hp.2.1, hp.2.2.1, hp.2.2.2⟩
    | exit id => exact ⟨hp.1, hp.2.1, hp.2.2.1, hp.2.2.2⟩
    | goto t => exact ⟨hp.1, hp.2.1, hp.2.2.1, hp.2.2.2⟩
    | panic ch => exact hp.elim
    | outgrown => exact hp.elim
  · intro D xs W hD hS hI hd
    exact hdone D xs W (Nat.le_trans hb.size hD) hS hI.1 hI.2.1 hI.2.2 hd
  · intro D c pre W hD hS hI hd
    exact hstop D c pre W (Nat.le_trans hb.size hD) hS hI.1 hI.2.1 hI.2.2 hd

/-- One block turned, the others as they lay. -/
theorem Keeps.grown {S : Nat → Prop} {A B : World} {s : Nat} (hg : A.grownBy B (some s)) (hS : ∀ k, S k → k < A.heap.size ∧ k ≠ s) : Keeps S A B :=
  ⟨hg.size, fun k hk => hg.block k (hS k hk).1 (by intro e; injection e with e; exact (hS k hk).2 e)⟩
theorem Blk.grown {A B : World} {s g : Nat} {t : TypeId} {cs : Array Value} (h : Blk A g t cs) (hg : A.grownBy B (some s)) (hne : g ≠ s) : Blk B g t cs :=
  (hg.block g h.lt (by intro e; injection e with e; exact hne e)).trans h
theorem KeepsOthers.grown {A B : World} {s : Nat} {t : TypeId} {cs : Array Value} (hg : A.grownBy B (some s)) (h : Blk A s t cs) : KeepsOthers A B :=
  KeepsOthers.of_grownBy hg (fun j o e ho => by cases e; unfold Blk at h; rw [h] at ho; cases ho; rfl)
theorem bGrownS {a A B : World} {s : Nat} (h : Below a.heap.size a A) (hg : A.grownBy B (some s)) (hs : a.heap.size ≤ s) : Below a.heap.size a B :=
  h.grown hg h.size (fun k e => by cases e; exact hs)
theorem grownBy_below_set {A w1 : World} (b : Below A.heap.size A w1) (s o : Nat) (v : Value) : A.grownBy (w1.setCell ⟨s, o, none⟩ v) (some s) := by
  refine ⟨b.os, b.tape, b.output, Nat.le_trans b.size (by simp [World.setCell]), fun i hi hne => ?_⟩
  rw [Below.heap_setCell _ _ _ _ (by intro e; exact hne (by rw [e]))]
  exact b.block i hi
theorem grownBy_below {A w1 : World} (b : Below A.heap.size A w1) (row : Option Nat) : A.grownBy w1 row := ⟨b.os, b.tape, b.output, b.size, fun i hi _ => b.block i hi⟩
theorem KeepsOthers.below {A B : World} (b : Below A.heap.size A B) : KeepsOthers A B := KeepsOthers.of_grownBy (grownBy_below b none) (fun _ _ e _ => by cases e)
theorem grownBy_set {A B : World} {s : Nat} (h : A.grownBy B (some s)) (o : Nat) (v : Value) : A.grownBy (B.setCell ⟨s, o, none⟩ v) (some s) := by
  refine ⟨h.os, h.tape, h.output, Nat.le_trans h.size (by simp [World.setCell]), fun i hi hne => ?_⟩
  rw [Below.heap_setCell _ _ _ _ (by intro e; exact hne (by rw [e]))]
  exact h.block i hi hne
end Go.Proofs.YthgppaiiapkdjaaGreatDoor
