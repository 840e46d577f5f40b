/-
  Keys, signatures and shares in plain words: a key is not one; what is signed, is accepted; the epochs of a line; who comes together. No program here.
-/
import Derived.Test.YtoeobcmmafncmaaDoorMbf
import Derived.Test.YtoeobcmmafncmaaDoorMbi
import Derived.Test.YtoeobcmmafncmaaDoorMbd
import Derived.Test.YtoeobcmmafncmaaDoorMan
namespace Go.Proofs.YtoeobcmmafncmaaDoor
open Go.RowKit

theorem vN_four : vN 4 := by
  obtain ⟨n, e, hn⟩ := vN_of valid_four
  have : n = 4 := by omega
  rw [← this]; exact hn
theorem powP_ne {m : Nat} (h0 : 0 < m) (h1 : m < Qn) : powP 4 m ≠ 1 := by
  intro h
  obtain ⟨x, hx⟩ : ∃ x, x = expQ := ⟨_, rfl⟩
  have hf := fermatQ h0 h1
  rw [← hx, Nat.pow_succ] at hf
  have e1 : powP 4 (m ^ x * m) = powP 4 1 := powP_cong vN_four (by rw [hf]; rfl)
  rw [Nat.mul_comm, powP_mul, h, one_powP, powP_one 4 (by decide)] at e1
  omega
theorem pub_ne {s : Int} (h : secB s = true) : pubV s ≠ 1 := by
  rw [pubV_eq h]
  obtain ⟨h1, h2⟩ := secB_rng h
  obtain ⟨m, rfl⟩ := Int.eq_ofNat_of_zero_le (show 0 ≤ s by omega)
  rw [show (4 : Int) = ((4 : Nat) : Int) from rfl, powV_nat vN_four]
  have e : expN (m : Int) = m := by unfold expN; omega
  rw [e]
  intro hh
  exact powP_ne (m := m) (by omega) (by unfold Qn; omega) (by omega)

/-- What is signed. -/
def nonT : ByteArray := ⟨#[110, 111, 110, 99, 101]⟩
def nonK (s : Int) (T : List Nat) : Int := max (hashV (sb nonT) (encN [.int s, .text (dgS T)]) : Int) 1
def sigE (s : Int) (T : List Nat) : Int := (sgV (powV 4 (nonK s T)) (powV 4 s) T : Nat)
def sigS (s : Int) (T : List Nat) : Int := (nonK s T + sigE s T * s % 1073741789) % 1073741789
theorem sigE_rng (s : Int) (T : List Nat) : 0 ≤ sigE s T ∧ sigE s T < 1073741789 := by
  unfold sigE sgV
  have := hashV_lt (sb sgS) (encN [.int (powV 4 (nonK s T)), .int (powV 4 s), .text (dgS T)])
  omega
theorem sigS_rng (s : Int) (T : List Nat) : 0 ≤ sigS s T ∧ sigS s T < 1073741789 := by
  unfold sigS; omega
theorem nonK_rng (s : Int) (T : List Nat) : 1 ≤ nonK s T ∧ nonK s T < 1073741789 := by
  unfold nonK
  have := hashV_lt (sb nonT) (encN [.int s, .text (dgS T)])
  omega
theorem sign_ok {s : Int} (hs : secB s = true) (T : List Nat) : sgB (pubV s) T (sigE s T) (sigS s T) = true := by
  have hk := valid_pow valid_four s
  have hpt : ptV (pubV s) (sigE s T) (sigS s T) = powV 4 (nonK s T) := by
    unfold ptV
    rw [pubV_eq hs, mulV_eq (valid_pow valid_four _) (valid_pow hk _)]
    have h := answer_back valid_four (nonK s T) (sigE s T) s
    rw [mulL_mp (valid_pow valid_four _) (valid_pow hk _)] at h
    have e : sigS s T = (nonK s T + sigE s T * s) % 1073741789 := by
      unfold sigS
      generalize sigE s T * s = z
      omega
    rw [e]
    exact h
  unfold sgB
  rw [pub_valid hs, ordB_ok (sigE_rng s T), ordB_ok (sigS_rng s T), hpt, pubV_eq hs]
  simp only [Bool.true_and, Bool.and_self]
  exact decide_eq_true (by unfold sigE; rfl)

/-- Epochs. -/
structure Ep where
  o : Int
  f : Int
  k : Int
def Ep.cl (e : Ep) : List Value := [.int .i64 e.o, .int .i64 e.f, .int .i64 e.k]
def Ep.good (e : Ep) : Prop := (0 ≤ e.o ∧ e.o < 24) ∧ (0 ≤ e.f ∧ e.f < 2097152) ∧ e.k ≠ 1 ∧ validB e.k = true
def epsOk (l : List Ep) : Prop := l.length ≤ 256 ∧ (∀ e ∈ l, e.good) ∧ ∀ (i : Nat) (a b : Ep), l[i]? = some a → l[i + 1]? = some b → a.o < b.o
def keyF (office time : Int) : List Ep → Int × Bool → Int × Bool
  | [], r => r
  | x :: l, r => if x.o = office then (if time < x.f then r else keyF office time l (x.k, true)) else keyF office time l r
theorem keyF_none {office time : Int} : ∀ {l m : List Ep} {r : Int × Bool}, (∀ x ∈ l, x.o ≠ office) → keyF office time (l ++ m) r = keyF office time m r
  | [], _, _, _ => rfl
  | x :: l, m, r, h => by
    show (if x.o = office then _ else keyF office time (l ++ m) r) = _
    rw [if_neg (h x (by simp)), keyF_none (l := l) (fun y hy => h y (by simp [hy]))]
/-- The epochs of a line whose secrets are given. -/
def epOf (from_ : Int) (ss : List Int) (i : Nat) : Ep := ⟨2 * (i : Int), from_, pubV (ss.getD i 0)⟩
def epsOf (from_ : Int) (ss : List Int) (n : Nat) : List Ep := (List.range n).map (epOf from_ ss)
theorem epsOf_length (f : Int) (ss : List Int) (n : Nat) : (epsOf f ss n).length = n := by simp [epsOf]
theorem epsOf_succ (f : Int) (ss : List Int) (n : Nat) : epsOf f ss (n + 1) = epsOf f ss n ++ [epOf f ss n] := by simp [epsOf, List.range_succ]
theorem epsOf_at {f : Int} {ss : List Int} {n i : Nat} (h : i < n) : (epsOf f ss n)[i]? = some (epOf f ss i) := by
  unfold epsOf
  rw [List.getElem?_map, List.getElem?_range h]; rfl
theorem epsOf_ok {f : Int} {ss : List Int} (h3 : ss.length ≤ 3) (hf : 0 ≤ f ∧ f < 2097152) (hs : ∀ s ∈ ss, secB s = true) : epsOk (epsOf f ss ss.length) := by
  refine ⟨by rw [epsOf_length]; omega, fun e he => ?_, fun i a b ha hb => ?_⟩
  · obtain ⟨i, hi, rfl⟩ := List.mem_map.1 he
    have hi' := List.mem_range.1 hi
    have hg : secB (ss.getD i 0) = true := by
      rw [List.getD_eq_getElem?_getD, List.getElem?_eq_getElem hi']
      exact hs _ (List.getElem_mem hi')
    exact ⟨⟨by show 0 ≤ 2 * (i : Int); omega, by show 2 * (i : Int) < 24; omega⟩, hf, pub_ne hg, pub_valid hg⟩
  · have h1 : i + 1 < ss.length := by have := (List.getElem?_eq_some_iff.1 hb).1; rwa [epsOf_length] at this
    rw [epsOf_at (by omega)] at ha hb
    cases ha; cases hb
    show 2 * (i : Int) < 2 * ((i + 1 : Nat) : Int)
    omega
theorem keyF_one {f t : Int} {ss : List Int} {n i : Nat} (h : i < n) : keyF (2 * (i : Int)) t (epsOf f ss n) (0, false) = if t < f then (0, false) else (pubV (ss.getD i 0), true) := by
  obtain ⟨m, rfl⟩ : ∃ m, n = i + (1 + m) := ⟨n - i - 1, by omega⟩
  have e : epsOf f ss (i + (1 + m)) = epsOf f ss i ++ (epOf f ss i :: (List.range m).map fun j => epOf f ss (i + (1 + j))) := by
    unfold epsOf
    rw [List.range_add, List.map_append, List.map_map, List.range_add, List.map_append, List.map_map]
    rfl
  rw [e, keyF_none (fun x hx => by
    obtain ⟨j, hj, rfl⟩ := List.mem_map.1 hx
    have := List.mem_range.1 hj
    show 2 * (j : Int) ≠ 2 * (i : Int)
    omega)]
  show (if 2 * (i : Int) = 2 * (i : Int) then (if t < f then (0, false) else keyF _ t _ (pubV (ss.getD i 0), true)) else _) = _
  rw [if_pos rfl]
  split
  · rfl
  · have := keyF_none (office := 2 * (i : Int)) (time := t) (l := (List.range m).map fun j => epOf f ss (i + (1 + j))) (m := []) (r := (pubV (ss.getD i 0), true)) (fun x hx => by
      obtain ⟨j, hj, rfl⟩ := List.mem_map.1 hx
      show 2 * ((i + (1 + j) : Nat) : Int) ≠ 2 * (i : Int)
      omega)
    rw [List.append_nil] at this
    exact this

/-- Who holds all numbers up to n, holds n of them. -/
theorem pigeon : ∀ (n : Nat) (L : List Nat), (∀ y, 1 ≤ y → y ≤ n → y ∈ L) → n ≤ L.length
  | 0, _, _ => Nat.zero_le _
  | n + 1, L, h => by
    have h1 := h (n + 1) (by omega) (by omega)
    have ih := pigeon n (L.erase (n + 1)) (fun y h2 h3 => (List.mem_erase_of_ne (by omega)).2 (h y h2 (by omega)))
    rw [List.length_erase_of_mem h1] at ih
    have := List.length_pos_of_mem h1
    omega
end Go.Proofs.YtoeobcmmafncmaaDoor

/-
  Iterators that hand on what lies in blocks of their own making: the contract says what the handed-on value reads as at that moment.
-/
namespace Go.Proofs.YtoeobcmmafncmaaDoor
open Go.RowKit

def SeqG {α : Type} (n : Nat) (P : Program) (g : Nat) (lb : Array Value) (encs : α → Array Value) (Kp : World → World → Prop) (S Sp : List α → Prop) (N : Nat) (w : World) (G : List α → α → World → Prop) : Prop :=
  ∀ (l : Nat) (J Jx : List α → World → Prop) (W : World), Below w.heap.size w W → AbidesFrom W.heap.size J → AbidesFrom W.heap.size Jx →
    (∀ pre x W1, J pre W1 → G pre x W1 → pre.length < N → YieldAt Fence.wide (n - 1) P l (encs x) W1 fun e W' =>
      (e = .returned (.bool true) ∧ J (pre ++ [x]) W' ∧ Kp W1 W') ∨ (e = .returned (.bool false) ∧ Jx (pre ++ [x]) W')) →
    J [] W →
    CallsIn Fence.wide n P g (#[.func (.yield l) #[] #[]] ++ lb) W fun e W' => (∃ v, e = .returned v) ∧ ((∃ xs, S xs ∧ J xs W') ∨ (∃ pre, Sp pre ∧ Jx pre W'))

/-- A range over an iterator that has its contract; the loop's variables may lie in memory: 'Im' says what holds when they have been assigned. -/
theorem wp_rangeFuncG {P : Program} {α : Type} {g : Operand} {ps : Array Tmp} {assign body : Code} {Q : Exit → Act → World → Prop} {a : Act} {w : World} (n : Nat)
    {gf : Nat} {lb : Array Value} (hg : a.eval g = .func (.func gf) #[] lb) (eg : ∀ args w, (callFunc gf args).run P w = .ok (.enter gf args) w)
    {encs : α → Array Value} {Kp : World → World → Prop} {S Sp : List α → Prop} {N : Nat} {w0 : World} {G : List α → α → World → Prop} (hseq : SeqG (n + 1) P gf lb encs Kp S Sp N w0 G)
    (hKt : ∀ {A B C : World}, Kp A B → Kp B C → Kp A C) (hKb : ∀ (W : World) (l : Nat) (o o' : Obj), w.heap.size ≤ l → W.heap[l]? = some o → o.isCells = false → o.isWalk = false → Kp W (W.putObj l o')) (hb0 : Below w0.heap.size w0 w) (hps : ∀ x, (encs x).size = ps.size)
    (I : List α → World → Prop) (Im : α → Act → List α → World → Prop) (Ix : Code → List α → World → Prop) (hI : OwnFrom w.heap.size I) (hIm : ∀ x a, OwnFrom w.heap.size (Im x a)) (hIx : ∀ c, OwnFrom w.heap.size (Ix c)) (h0 : I [] w)
    (hassign : ∀ (l : Nat) (pre : List α) (x : α) (W : World), I pre W → G pre x W → pre.length < N →
      assign.wpIn (Fence.wide.inRound l) n P (Exit.then (fun a₁ W₁ => KeepsOthers W W₁ ∧ Kp W W₁ ∧ Im x a₁ pre W₁) (fun _ _ _ => False)) { tmps := (ps.zip (encs x)).foldl (fun t (p, v) => t.setIfInBounds p v) a.tmps, defers := [] } W)
    (hbody : ∀ (l : Nat) (pre : List α) (x : α) (a₁ : Act) (W : World), Im x a₁ pre W → pre.length < N → body.wpIn (Fence.wide.inRound l) n P (ownPostK Kp I Ix (pre ++ [x]) W) a₁ W)
    (hdone : ∀ (D : Nat) (xs : List α) (W : World), w.heap.size ≤ D → S xs → I xs W → W.heap[D]? = some (.deferred (some [])) → Q .normal { a with defers := { target := .collected D, args := #[] } :: a.defers } W)
    (hstop : ∀ (D : Nat) (c : Code) (pre : List α) (W : World), w.heap.size ≤ D → Sp pre → Ix c pre W → W.heap[D]? = some (.deferred (some [])) → c.wp P Q { a with defers := { target := .collected D, args := #[] } :: a.defers } W) :
    (Code.rangeFunc g ps assign body).wp P Q a w := by
  refine (wpIn_wide (n := n + 2)).1 (wpIn_rangeFunc ?_)
  intro fn _
  obtain ⟨rec, hrec⟩ : ∃ rec : LoopState → Option Code → Loop, rec = fun st pe => { state := st, pending := pe, fn, tmps := a.tmps, params := ps, assign, body, defers := w.heap.size } := ⟨_, rfl⟩
  obtain ⟨W1, hW1⟩ : ∃ W1, (w.alloc (.deferred (some []))).alloc (.loop (rec .ready none)) = W1 := ⟨_, rfl⟩
  have hL1 : W1.heap[w.heap.size + 1]? = some (.loop (rec .ready none)) := by
    rw [← hW1]; have := World.alloc_heap_new (w.alloc (.deferred (some []))) (.loop (rec .ready none)); rwa [World.size_alloc] at this
  have hK1 : W1.heap[w.heap.size]? = some (.deferred (some [])) := by
    rw [← hW1]; exact (Below.heap_alloc _ _ _ (by simp)).trans (World.alloc_heap_new w _)
  have hI1 : I [] W1 := by rw [← hW1]; exact hI.alloc _ (hI.alloc _ h0)
  have hb1 : Below w0.heap.size w0 W1 := by
    rw [← hW1]; exact hb0.trans ((((Below.refl _ w).alloc (Nat.le_refl _) _).alloc (by simp) _).mono hb0.size)
  refine ⟨w.heap.size + 1, [{ target := .collected w.heap.size, args := #[] }], W1, { target := .fn (.func gf) lb, args := #[.func (.yield (w.heap.size + 1)) #[] #[]] }, W1, gf,
    #[.func (.yield (w.heap.size + 1)) #[] #[]] ++ lb, W1, ?_, ?_, ?_, ?_, fun _ => by omega, ?_⟩
  · rw [← hW1, hrec]; exact run_enterLoop_outer _ _ _ _ _
  · simp only [resolve, hg]
    simp [go_sem]
  · intro f' _; trivial
  · simp [invoke, go_sem, eg]
  · have hnw : ∀ {A B : World} {row : Option Nat}, (∀ r, row = some r → W1.heap.size ≤ r ∧ ∃ o : Obj, A.heap[r]? = some o ∧ o.isWalk = true) → (∀ r, row = some r → w.heap.size ≤ r ∧ ∃ o : Obj, A.heap[r]? = some o ∧ o.isCells = false) :=
      fun hr r e => by obtain ⟨hB, o, ho, hw⟩ := hr r e; exact ⟨by rw [← hW1] at hB; simp at hB; omega, o, ho, Obj.not_cells_of_walk hw⟩
    refine (hseq (w.heap.size + 1)
      (fun pre W => I pre W ∧ W.heap[w.heap.size + 1]? = some (.loop (rec .ready none)) ∧ W.heap[w.heap.size]? = some (.deferred (some [])))
      (fun pre W => ∃ c, Ix c pre W ∧ W.heap[w.heap.size + 1]? = some (.loop (rec .done (some c))) ∧ W.heap[w.heap.size]? = some (.deferred (some [])))
      W1 hb1
      (fun s A B row hs hg' hr => ⟨hI s A B row hs.1 hg' (hnw (B := B) hr), (grownBy_keeps hg' (fun r e => (hr r e).2) hs.2.1 rfl).trans hs.2.1, (grownBy_keeps hg' (fun r e => (hr r e).2) hs.2.2 rfl).trans hs.2.2⟩)
      (fun s A B row hs hg' hr => by
        obtain ⟨c, hc, hl, hk⟩ := hs
        exact ⟨c, hIx c s A B row hc hg' (hnw (B := B) hr), (grownBy_keeps hg' (fun r e => (hr r e).2) hl rfl).trans hl, (grownBy_keeps hg' (fun r e => (hr r e).2) hk rfl).trans hk⟩)
      ?_ ⟨hI1, hL1, hK1⟩).mono ?_
    · rintro pre x W ⟨hi, hl, hk⟩ hG hlen
      have hy := run_yield (P := P) (args := encs x) hl (by rw [hrec]; exact hps x)
      rw [hrec] at hy
      refine ⟨fn, _, assign, body, hy, roundIn_of_wpIn trivial (wpIn_mono (hassign _ pre x W hi hG hlen) ?_)⟩
      rintro e a1 Wa hp
      cases e with
      | normal =>
        obtain ⟨hka, hkpa, hma⟩ := hp
        have hla := hka.same _ _ hl rfl
        have hkka := hka.same _ _ hk rfl
        have hlt : w.heap.size + 1 < Wa.heap.size := (Array.getElem?_eq_some_iff.1 hla).1
        refine ⟨_, run_beginRound hla (by rw [hrec]), ?_⟩
        have hl2 : (Wa.putObj (w.heap.size + 1) (.loop { rec .ready none with state := .busy })).heap[w.heap.size + 1]? = some (.loop { rec .ready none with state := .busy }) := World.putObj_heap_same hlt
        have hk2 : (Wa.putObj (w.heap.size + 1) (.loop { rec .ready none with state := .busy })).heap[w.heap.size]? = some (.deferred (some [])) := (World.putObj_heap_other (by omega)).trans hkka
        have hw2 : Kp W (Wa.putObj (w.heap.size + 1) (.loop { rec .ready none with state := .busy })) := hKt hkpa (hKb _ _ _ _ (by omega) hla rfl rfl)
        refine wpIn_mono (hbody _ pre x a1 _ ((hIm x a1).putObj _ hma (by omega) hla rfl) hlen) ?_
        have fin : ∀ (jump : Option Code) (W3 : World), KeepsOthers (Wa.putObj (w.heap.size + 1) (.loop { rec .ready none with state := .busy })) W3 →
            (Instr.endRound (w.heap.size + 1) jump).run P W3 = .ok (.bool jump.isNone) (W3.putObj (w.heap.size + 1) (.loop (rec (if jump.isNone then .ready else .done) jump))) ∧
            W3.heap[w.heap.size + 1]? = some (.loop { rec .ready none with state := .busy }) ∧
            (W3.putObj (w.heap.size + 1) (.loop (rec (if jump.isNone then .ready else .done) jump))).heap[w.heap.size + 1]? = some (.loop (rec (if jump.isNone then .ready else .done) jump)) ∧
            (W3.putObj (w.heap.size + 1) (.loop (rec (if jump.isNone then .ready else .done) jump))).heap[w.heap.size]? = some (.deferred (some [])) := fun jump W3 hk3 => by
          have hl3 := hk3.same _ _ hl2 rfl
          have := run_endRound (P := P) jump hl3
          rw [hrec] at this ⊢
          exact ⟨this, by rw [hrec] at hl3; exact hl3, World.putObj_heap_same (Array.getElem?_eq_some_iff.1 hl3).1, (World.putObj_heap_other (by omega)).trans (hk3.same _ _ hk2 rfl)⟩
        rintro e a3 W3 hp
        cases e with
        | normal =>
          obtain ⟨hk3, hkp3, hi3⟩ := hp
          obtain ⟨hr, hl3, hl4, hk4⟩ := fin none W3 hk3
          exact ⟨_, _, hr, .inl ⟨rfl, ⟨hI.putObj _ hi3 (by omega) hl3 rfl, hl4, hk4⟩, hKt (hKt hw2 hkp3) (hKb _ _ _ _ (by omega) hl3 rfl rfl)⟩⟩
        | ret =>
          obtain ⟨hk3, hi3⟩ := hp
          obtain ⟨hr, hl3, hl4, hk4⟩ := fin (some .ret) W3 hk3
          exact ⟨_, _, hr, .inr ⟨rfl, .ret, (hIx _).putObj _ hi3 (by omega) hl3 rfl, hl4, hk4⟩⟩
        | exit id =>
          obtain ⟨hk3, hi3⟩ := hp
          obtain ⟨hr, hl3, hl4, hk4⟩ := fin (some (.exit id)) W3 hk3
          exact ⟨_, _, hr, .inr ⟨rfl, .exit id, (hIx _).putObj _ hi3 (by omega) hl3 rfl, hl4, hk4⟩⟩
        | goto t =>
          obtain ⟨hk3, hi3⟩ := hp
          obtain ⟨hr, hl3, hl4, hk4⟩ := fin (some (.goto t)) W3 hk3
          exact ⟨_, _, hr, .inr ⟨rfl, .goto t, (hIx _).putObj _ hi3 (by omega) hl3 rfl, hl4, hk4⟩⟩
        | panic ch => exact hp.elim
        | outgrown => exact hp.elim
      | ret => exact hp.elim
      | exit id => exact hp.elim
      | goto t => exact hp.elim
      | panic ch => exact hp.elim
      | outgrown => exact hp.elim
    · rintro e W2 ⟨⟨v, rfl⟩, (⟨xs, hS, hi, hl, hk⟩ | ⟨pre, hSp, c, hi, hl, hk⟩)⟩
      · exact ⟨none, _, by have := run_endLoop (P := P) hl (by rw [hrec]; simp); rw [hrec] at this; exact this, hdone _ xs _ (Nat.le_refl _) hS (hI.putObj _ hi (by omega) hl rfl) ((World.putObj_heap_other (by omega)).trans hk)⟩
      · exact ⟨some c, _, by have := run_endLoop (P := P) hl (by rw [hrec]; simp); rw [hrec] at this; exact this, wpIn_wide.2 (hstop _ c pre _ (Nat.le_refl _) hSp ((hIx c).putObj _ hi (by omega) hl rfl) ((World.putObj_heap_other (by omega)).trans hk))⟩


end Go.Proofs.YtoeobcmmafncmaaDoor
