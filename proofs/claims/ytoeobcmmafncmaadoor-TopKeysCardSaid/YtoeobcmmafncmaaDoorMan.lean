/-
  Iterators that keep state of their own in cells: the contract names the blocks that they write.
-/
import Derived.Test.YtoeobcmmafncmaaDoorMam
import Derived.Deep.RegionWith
import Derived.Deep.DeepCutAuto
namespace Go.Proofs.YtoeobcmmafncmaaDoor
open Go.RowKit

/-- What the caller's word abides: new blocks, turns of walks, and stores into the iterator's own blocks T. -/
def AbT (T : Nat → Prop) {β : Type} (B : Nat) (J : β → World → Prop) : Prop := AbidesFrom B J ∧ ∀ s W p v, J s W → T p.block → J s (W.setCell p v)
def SeqT {α : Type} (T : Nat → Prop) (n : Nat) (P : Program) (g : Nat) (lb : Array Value) (encs : α → Array Value) (Kp : World → World → Prop) (S Sp : List α → Prop) (N : Nat) (w : World) : Prop :=
  ∀ (l : Nat) (J Jx : List α → World → Prop) (W : World), Below w.heap.size w W → AbT T W.heap.size J → AbT T W.heap.size Jx →
    (∀ pre x W1, J pre W1 → pre.length < N → YieldAt Fence.wide (n - 1) P l (encs x) W1 fun e W' =>
      (e = .returned (.bool true) ∧ J (pre ++ [x]) W' ∧ Kp W1 W') ∨ (e = .returned (.bool false) ∧ Jx (pre ++ [x]) W')) →
    J [] W →
    CallsIn Fence.wide n P g (#[.func (.yield l) #[] #[]] ++ lb) W fun e W' => (∃ v, e = .returned v) ∧ ((∃ xs, S xs ∧ J xs W') ∨ (∃ pre, Sp pre ∧ Jx pre W'))

/-- A range over an iterator that has its contract; the loop's variables may lie in memory: 'Im' says what holds when they have been assigned. -/
theorem wp_rangeFuncT {P : Program} {α : Type} {g : Operand} {ps : Array Tmp} {assign body : Code} {Q : Exit → Act → World → Prop} {a : Act} {w : World} (n : Nat)
    {gf : Nat} {lb : Array Value} (hg : a.eval g = .func (.func gf) #[] lb) (eg : ∀ args w, (callFunc gf args).run P w = .ok (.enter gf args) w)
    {encs : α → Array Value} {Kp : World → World → Prop} {S Sp : List α → Prop} {N : Nat} {w0 : World} {T : Nat → Prop} (hseq : SeqT T (n + 1) P gf lb encs Kp S Sp N w0) (hT : ∀ k, T k → k < w.heap.size)
    (hKt : ∀ {A B C : World}, Kp A B → Kp B C → Kp A C) (hKb : ∀ (W : World) (l : Nat) (o o' : Obj), w.heap.size ≤ l → W.heap[l]? = some o → o.isCells = false → o.isWalk = false → Kp W (W.putObj l o')) (hb0 : Below w0.heap.size w0 w) (hps : ∀ x, (encs x).size = ps.size)
    (I : List α → World → Prop) (Im : α → Act → List α → World → Prop) (Ix : Code → List α → World → Prop) (hI : OwnFrom w.heap.size I) (hIm : ∀ x a, OwnFrom w.heap.size (Im x a)) (hIx : ∀ c, OwnFrom w.heap.size (Ix c)) (hIT : ∀ s W p v, I s W → T p.block → I s (W.setCell p v)) (hIxT : ∀ c s W p v, Ix c s W → T p.block → Ix c s (W.setCell p v)) (h0 : I [] w)
    (hassign : ∀ (l : Nat) (pre : List α) (x : α) (W : World), I pre W → pre.length < N →
      assign.wpIn (Fence.wide.inRound l) n P (Exit.then (fun a₁ W₁ => KeepsOthers W W₁ ∧ Kp W W₁ ∧ Im x a₁ pre W₁) (fun _ _ _ => False)) { tmps := (ps.zip (encs x)).foldl (fun t (p, v) => t.setIfInBounds p v) a.tmps, defers := [] } W)
    (hbody : ∀ (l : Nat) (pre : List α) (x : α) (a₁ : Act) (W : World), Im x a₁ pre W → pre.length < N → body.wpIn (Fence.wide.inRound l) n P (ownPostK Kp I Ix (pre ++ [x]) W) a₁ W)
    (hdone : ∀ (D : Nat) (xs : List α) (W : World), w.heap.size ≤ D → S xs → I xs W → W.heap[D]? = some (.deferred (some [])) → Q .normal { a with defers := { target := .collected D, args := #[] } :: a.defers } W)
    (hstop : ∀ (D : Nat) (c : Code) (pre : List α) (W : World), w.heap.size ≤ D → Sp pre → Ix c pre W → W.heap[D]? = some (.deferred (some [])) → c.wp P Q { a with defers := { target := .collected D, args := #[] } :: a.defers } W) :
    (Code.rangeFunc g ps assign body).wp P Q a w := by
  refine (wpIn_wide (n := n + 2)).1 (wpIn_rangeFunc ?_)
  intro fn _
  obtain ⟨rec, hrec⟩ : ∃ rec : LoopState → Option Code → Loop, rec = fun st pe => { state := st, pending := pe, fn, tmps := a.tmps, params := ps, assign, body, defers := w.heap.size } := ⟨_, rfl⟩
  obtain ⟨W1, hW1⟩ : ∃ W1, (w.alloc (.deferred (some []))).alloc (.loop (rec .ready none)) = W1 := ⟨_, rfl⟩
  have hL1 : W1.heap[w.heap.size + 1]? = some (.loop (rec .ready none)) := by
    rw [← hW1]; have := World.alloc_heap_new (w.alloc (.deferred (some []))) (.loop (rec .ready none)); rwa [World.size_alloc] at this
  have hK1 : W1.heap[w.heap.size]? = some (.deferred (some [])) := by
    rw [← hW1]; exact (Below.heap_alloc _ _ _ (by simp)).trans (World.alloc_heap_new w _)
  have hI1 : I [] W1 := by rw [← hW1]; exact hI.alloc _ (hI.alloc _ h0)
  have hb1 : Below w0.heap.size w0 W1 := by
    rw [← hW1]; exact hb0.trans ((((Below.refl _ w).alloc (Nat.le_refl _) _).alloc (by simp) _).mono hb0.size)
  refine ⟨w.heap.size + 1, [{ target := .collected w.heap.size, args := #[] }], W1, { target := .fn (.func gf) lb, args := #[.func (.yield (w.heap.size + 1)) #[] #[]] }, W1, gf,
    #[.func (.yield (w.heap.size + 1)) #[] #[]] ++ lb, W1, ?_, ?_, ?_, ?_, fun _ => by omega, ?_⟩
  · rw [← hW1, hrec]; exact run_enterLoop_outer _ _ _ _ _
  · simp only [resolve, hg]
    simp [go_sem]
  · intro f' _; trivial
  · simp [invoke, go_sem, eg]
  · have hnw : ∀ {A B : World} {row : Option Nat}, (∀ r, row = some r → W1.heap.size ≤ r ∧ ∃ o : Obj, A.heap[r]? = some o ∧ o.isWalk = true) → (∀ r, row = some r → w.heap.size ≤ r ∧ ∃ o : Obj, A.heap[r]? = some o ∧ o.isCells = false) :=
      fun hr r e => by obtain ⟨hB, o, ho, hw⟩ := hr r e; exact ⟨by rw [← hW1] at hB; simp at hB; omega, o, ho, Obj.not_cells_of_walk hw⟩
    have hfar : ∀ {p : Addr}, T p.block → ∀ i, w.heap.size + i ≠ p.block := fun ht i => by have := hT _ ht; omega
    refine (hseq (w.heap.size + 1)
      (fun pre W => I pre W ∧ W.heap[w.heap.size + 1]? = some (.loop (rec .ready none)) ∧ W.heap[w.heap.size]? = some (.deferred (some [])))
      (fun pre W => ∃ c, Ix c pre W ∧ W.heap[w.heap.size + 1]? = some (.loop (rec .done (some c))) ∧ W.heap[w.heap.size]? = some (.deferred (some [])))
      W1 hb1
      ⟨fun s A B row hs hg' hr => ⟨hI s A B row hs.1 hg' (hnw (B := B) hr), (grownBy_keeps hg' (fun r e => (hr r e).2) hs.2.1 rfl).trans hs.2.1, (grownBy_keeps hg' (fun r e => (hr r e).2) hs.2.2 rfl).trans hs.2.2⟩,
        fun s A p v hs ht => ⟨hIT s A p v hs.1 ht, (Below.heap_setCell A p v _ (hfar ht 1)).trans hs.2.1, (Below.heap_setCell A p v _ (hfar ht 0)).trans hs.2.2⟩⟩
      ⟨fun s A B row hs hg' hr => by
        obtain ⟨c, hc, hl, hk⟩ := hs
        exact ⟨c, hIx c s A B row hc hg' (hnw (B := B) hr), (grownBy_keeps hg' (fun r e => (hr r e).2) hl rfl).trans hl, (grownBy_keeps hg' (fun r e => (hr r e).2) hk rfl).trans hk⟩,
        fun s A p v hs ht => by
          obtain ⟨c, hc, hl, hk⟩ := hs
          exact ⟨c, hIxT c s A p v hc ht, (Below.heap_setCell A p v _ (hfar ht 1)).trans hl, (Below.heap_setCell A p v _ (hfar ht 0)).trans hk⟩⟩
      ?_ ⟨hI1, hL1, hK1⟩).mono ?_
    · rintro pre x W ⟨hi, hl, hk⟩ hlen
      have hy := run_yield (P := P) (args := encs x) hl (by rw [hrec]; exact hps x)
      rw [hrec] at hy
      refine ⟨fn, _, assign, body, hy, roundIn_of_wpIn trivial (wpIn_mono (hassign _ pre x W hi hlen) ?_)⟩
      rintro e a1 Wa hp
      cases e with
      | normal =>
        obtain ⟨hka, hkpa, hma⟩ := hp
        have hla := hka.same _ _ hl rfl
        have hkka := hka.same _ _ hk rfl
        have hlt : w.heap.size + 1 < Wa.heap.size := (Array.getElem?_eq_some_iff.1 hla).1
        refine ⟨_, run_beginRound hla (by rw [hrec]), ?_⟩
        have hl2 : (Wa.putObj (w.heap.size + 1) (.loop { rec .ready none with state := .busy })).heap[w.heap.size + 1]? = some (.loop { rec .ready none with state := .busy }) := World.putObj_heap_same hlt
        have hk2 : (Wa.putObj (w.heap.size + 1) (.loop { rec .ready none with state := .busy })).heap[w.heap.size]? = some (.deferred (some [])) := (World.putObj_heap_other (by omega)).trans hkka
        have hw2 : Kp W (Wa.putObj (w.heap.size + 1) (.loop { rec .ready none with state := .busy })) := hKt hkpa (hKb _ _ _ _ (by omega) hla rfl rfl)
        refine wpIn_mono (hbody _ pre x a1 _ ((hIm x a1).putObj _ hma (by omega) hla rfl) hlen) ?_
        have fin : ∀ (jump : Option Code) (W3 : World), KeepsOthers (Wa.putObj (w.heap.size + 1) (.loop { rec .ready none with state := .busy })) W3 →
            (Instr.endRound (w.heap.size + 1) jump).run P W3 = .ok (.bool jump.isNone) (W3.putObj (w.heap.size + 1) (.loop (rec (if jump.isNone then .ready else .done) jump))) ∧
            W3.heap[w.heap.size + 1]? = some (.loop { rec .ready none with state := .busy }) ∧
            (W3.putObj (w.heap.size + 1) (.loop (rec (if jump.isNone then .ready else .done) jump))).heap[w.heap.size + 1]? = some (.loop (rec (if jump.isNone then .ready else .done) jump)) ∧
            (W3.putObj (w.heap.size + 1) (.loop (rec (if jump.isNone then .ready else .done) jump))).heap[w.heap.size]? = some (.deferred (some [])) := fun jump W3 hk3 => by
          have hl3 := hk3.same _ _ hl2 rfl
          have := run_endRound (P := P) jump hl3
          rw [hrec] at this ⊢
          exact ⟨this, by rw [hrec] at hl3; exact hl3, World.putObj_heap_same (Array.getElem?_eq_some_iff.1 hl3).1, (World.putObj_heap_other (by omega)).trans (hk3.same _ _ hk2 rfl)⟩
        rintro e a3 W3 hp
        cases e with
        | normal =>
          obtain ⟨hk3, hkp3, hi3⟩ := hp
          obtain ⟨hr, hl3, hl4, hk4⟩ := fin none W3 hk3
          exact ⟨_, _, hr, .inl ⟨rfl, ⟨hI.putObj _ hi3 (by omega) hl3 rfl, hl4, hk4⟩, hKt (hKt hw2 hkp3) (hKb _ _ _ _ (by omega) hl3 rfl rfl)⟩⟩
        | ret =>
          obtain ⟨hk3, hi3⟩ := hp
          obtain ⟨hr, hl3, hl4, hk4⟩ := fin (some .ret) W3 hk3
          exact ⟨_, _, hr, .inr ⟨rfl, .ret, (hIx _).putObj _ hi3 (by omega) hl3 rfl, hl4, hk4⟩⟩
        | exit id =>
          obtain ⟨hk3, hi3⟩ := hp
          obtain ⟨hr, hl3, hl4, hk4⟩ := fin (some (.exit id)) W3 hk3
          exact ⟨_, _, hr, .inr ⟨rfl, .exit id, (hIx _).putObj _ hi3 (by omega) hl3 rfl, hl4, hk4⟩⟩
        | goto t =>
          obtain ⟨hk3, hi3⟩ := hp
          obtain ⟨hr, hl3, hl4, hk4⟩ := fin (some (.goto t)) W3 hk3
          exact ⟨_, _, hr, .inr ⟨rfl, .goto t, (hIx _).putObj _ hi3 (by omega) hl3 rfl, hl4, hk4⟩⟩
        | panic ch => exact hp.elim
        | outgrown => exact hp.elim
      | ret => exact hp.elim
      | exit id => exact hp.elim
      | goto t => exact hp.elim
      | panic ch => exact hp.elim
      | outgrown => exact hp.elim
    · rintro e W2 ⟨⟨v, rfl⟩, (⟨xs, hS, hi, hl, hk⟩ | ⟨pre, hSp, c, hi, hl, hk⟩)⟩
      · exact ⟨none, _, by have := run_endLoop (P := P) hl (by rw [hrec]; simp); rw [hrec] at this; exact this, hdone _ xs _ (Nat.le_refl _) hS (hI.putObj _ hi (by omega) hl rfl) ((World.putObj_heap_other (by omega)).trans hk)⟩
      · exact ⟨some c, _, by have := run_endLoop (P := P) hl (by rw [hrec]; simp); rw [hrec] at this; exact this, wpIn_wide.2 (hstop _ c pre _ (Nat.le_refl _) hSp ((hIx c).putObj _ hi (by omega) hl rfl) ((World.putObj_heap_other (by omega)).trans hk))⟩


end Go.Proofs.YtoeobcmmafncmaaDoor

/-
  The group: powers, walked: least, the iterator of squares, Pow.
-/
namespace Go.Proofs.YtoeobcmmafncmaaDoor
open Go.RowKit Go.Shelf
attribute [local go_sem] Oper.semAt_some

/-- The exponent. -/
def expN (n : Int) : Nat := (n % 1073741789).toNat
theorem expN_lt (n : Int) : expN n < 1073741789 := by unfold expN; omega
/-- What least multiplies. -/
def leastV (l : List Int) : Int := l.foldl (fun m x => m * (x.tmod 1073741789 + 1073741789) % 1073741789) 1
theorem leastV_snoc (l : List Int) (x : Int) : leastV (l ++ [x]) = leastV l * (x.tmod 1073741789 + 1073741789) % 1073741789 := by simp [leastV]
theorem leastV_rng (l : List Int) : 0 ≤ leastV l ∧ leastV l < 1073741789 := by
  rcases List.eq_nil_or_concat l with rfl | ⟨l, x, rfl⟩
  · simp [leastV]
  · rw [List.concat_eq_append, leastV_snoc]; omega
theorem tmod_q (x : Int) : -1073741789 < x.tmod 1073741789 ∧ x.tmod 1073741789 < 1073741789 := by
  by_cases h : x < 0
  · have h1 : x.tmod 1073741789 = -((-x).tmod 1073741789) := by rw [Int.neg_tmod, Int.neg_neg]
    have h2 := Int.tmod_nonneg (a := -x) 1073741789 (by omega)
    have h3 := Int.tmod_lt_of_pos (-x) (b := 1073741789) (by omega)
    omega
  · have h2 := Int.tmod_nonneg (a := x) 1073741789 (by omega)
    have h3 := Int.tmod_lt_of_pos x (b := 1073741789) (by omega)
    omega
theorem tmod_emod (x : Int) : (x.tmod 1073741789 + 1073741789) % 1073741789 = x % 1073741789 := by
  have h := Int.mul_tdiv_add_tmod x 1073741789
  generalize x.tdiv 1073741789 = q at *
  generalize x.tmod 1073741789 = r at *
  omega
theorem leastV_one (n : Int) : leastV [n] = (expN n : Int) := by
  show 1 * (n.tmod 1073741789 + 1073741789) % 1073741789 = _
  rw [Int.one_mul, tmod_emod]; unfold expN; omega

set_option maxHeartbeats 1000000 in
theorem group_least (A : Option Addr) (n c : Nat) (l : List Int) (w : World) (hA : Rd w w.heap.size 1 A n (ints l)) (hn : n ≤ 1000) :
    Calls Tryd.prog 49 #[.slice A n c] w (Same (.int .i64 (leastV l)) w) := by
  have hl : Hid (l.length = n) := by have := hA.1; rw [ints_length, Nat.mul_one] at this; exact this
  go_enter Tryd.func49, Tryd.ntmps49
  go_wp2
  go_loop [3, 8] (fun s i => ∃ k : Nat, k ≤ n ∧ i = .int .i64 k ∧ s = .int .i64 (leastV (l.take k))) (fun _ i => n - (intOf i).toNat)
  case atStart => exact ⟨0, Nat.zero_le _, rfl, rfl⟩
  case round =>
    obtain ⟨k, hkn, rfl, rfl⟩ := hrel
    by_cases hlt : k < n
    · obtain ⟨x, hx⟩ : ∃ x, Hid (l[k]? = some x) := ⟨_, Lib.hid (List.getElem?_eq_getElem (by rw [hl.out]; exact hlt))⟩
      obtain ⟨b, off, rfl, hbb, c0⟩ := Int_at hA hlt hx.out
      have hs : Hid (leastV (l.take (k + 1)) = leastV (l.take k) * (x.tmod 1073741789 + 1073741789) % 1073741789) := by
        show _ = _
        obtain ⟨hk, rfl⟩ := List.getElem?_eq_some_iff.1 hx.out
        rw [List.take_succ_eq_append_getElem hk, leastV_snoc]
      obtain ⟨r1, r2⟩ := leastV_rng (l.take k)
      obtain ⟨t1, t2⟩ := tmod_q x
      have t3 : 0 ≤ x.tmod 1073741789 + 1073741789 := by omega
      have t4 : x.tmod 1073741789 + 1073741789 ≤ 2147483578 := by omega
      have m1 : 0 ≤ leastV (l.take k) * (x.tmod 1073741789 + 1073741789) := Int.mul_nonneg r1 (by omega)
      have m2 : leastV (l.take k) * (x.tmod 1073741789 + 1073741789) ≤ 2305842977784800000 := by
        have := Int.mul_le_mul (a := leastV (l.take k)) (b := x.tmod 1073741789 + 1073741789) (c := 1073741789) (d := 2147483578) (by omega) (by omega) (by omega) (by omega)
        omega
      go_wp2
      exact ⟨⟨k + 1, by omega, by go_num, by rw [hs.out]⟩, by simp [intOf]; omega⟩
    · go_wp2
      go_ret
      exact ⟨ret_int (by rw [List.take_of_length_le (by rw [hl.out]; omega)]), rfl⟩

theorem squares_any (a n : Int) (w : World) :
    Calls Tryd.prog 48 #[.int .i64 a, .int .i64 n] w fun r w' =>
      r = .returned (.func (.func 75) #[] #[.pointer (some ⟨w.heap.size + 1, 0, none⟩), .pointer (some ⟨w.heap.size, 0, none⟩)]) ∧ w' = (w.alloc (.cells #[.int .i64 a] 3)).alloc (.cells #[.int .i64 n] 3) := by
  have hmf : ∀ (fn : Fn) (first cap : Array Value) (w : World), (Instr.makeFunc fn first cap).run Tryd.prog w = .ok (.func fn first cap) w := fun _ _ _ _ => rfl
  go_enter Tryd.func48, Tryd.ntmps48
  go_wp2
  go_ret
  exact ⟨rfl, rfl⟩

/-- What the iterator of squares yields: a square, and a bit of the exponent. -/
structure Sq where
  sq : Nat
  bit : Bool
  lt : sq < 2147483579
def Sq.encs (x : Sq) : Array Value := #[.int .i64 x.sq, .bool x.bit]
def prodS (l : List Sq) : Nat := l.foldl (fun c x => if x.bit = true then c * x.sq % Pn else c) 1
theorem prodS_snoc (l : List Sq) (x : Sq) : prodS (l ++ [x]) = if x.bit = true then prodS l * x.sq % Pn else prodS l := by simp [prodS]
theorem prodS_lt (l : List Sq) : prodS l < 2147483579 := by
  rcases List.eq_nil_or_concat l with rfl | ⟨l, x, rfl⟩
  · decide
  · have : ∀ l : List Sq, prodS l < 2147483579 := by
      intro l
      have h : ∀ (l : List Sq) (c : Nat), c < 2147483579 → l.foldl (fun c x => if x.bit = true then c * x.sq % Pn else c) c < 2147483579 := by
        intro l
        induction l with
        | nil => exact fun _ h => h
        | cons x l ih => exact fun c h => ih _ (by show (if x.bit = true then c * x.sq % Pn else c) < 2147483579; split; exact Nat.mod_lt _ (by decide); exact h)
      exact h l 1 (by decide)
    exact this _
theorem i64_and1 (n : Int) : bits .and .i64 n 1 = n % 2 := by
  have h1 : (BitVec.ofInt 64 1).toNat = 2 ^ 1 - 1 := by decide
  have key : (BitVec.ofInt 64 n &&& BitVec.ofInt 64 1).toNat = (n % ((2 ^ 64 : Nat) : Int)).toNat % 2 ^ 1 := by
    rw [BitVec.toNat_and, BitVec.toNat_ofInt, h1, Nat.and_two_pow_sub_one_eq_mod]
  show IntKind.i64.wrap ((BitVec.ofInt 64 n &&& BitVec.ofInt 64 1).toNat : Nat) = n % 2
  rw [key, IntKind.wrap_i64]
  omega
/-- The lowest bit. -/
def obit (n : Nat) : Bool := bits BinOp.and IntKind.i64 (n : Int) 1 == 1
theorem obit_iff (n : Nat) : obit n = true ↔ n % 2 = 1 := by
  unfold obit; rw [i64_and1, beq_iff_eq]; omega
/-- What holds between two rounds: what has come, and what is left of it. -/
def SqRel (a0 n0 : Nat) (pre : List Sq) (a n : Nat) : Prop := a < 2147483579 ∧ n < 2 ^ (31 - pre.length) ∧ (prodS pre * a ^ n) % Pn = powP a0 n0
theorem SqRel.start {a n : Nat} (ha : a < 2147483579) (hn : n < 1073741789) : SqRel a n [] a n := by
  refine ⟨ha, by show n < 2 ^ 31; omega, ?_⟩
  show (1 * a ^ n) % Pn = _
  rw [Nat.one_mul]; rfl
theorem SqRel.next {a0 n0 a n : Nat} {pre : List Sq} (h : SqRel a0 n0 pre a n) (hn : 0 < n) :
    SqRel a0 n0 (pre ++ [⟨a, obit n, h.1⟩]) (a * a % 2147483579) (n / 2) ∧ pre.length < 31 := by
  obtain ⟨h1, h2, h3⟩ := h
  have hl : pre.length < 31 := by
    rcases Nat.lt_or_ge pre.length 31 with h | h
    · exact h
    · rw [Nat.sub_eq_zero_of_le h] at h2; omega
  refine ⟨⟨Nat.mod_lt _ (by decide), ?_, ?_⟩, hl⟩
  · rw [List.length_append, List.length_singleton]
    have : 31 - pre.length = (31 - (pre.length + 1)) + 1 := by omega
    rw [this, Nat.pow_succ] at h2
    omega
  · rw [prodS_snoc]
    refine Eq.trans ?_ h3
    refine Eq.trans ?_ (square_step (prodS pre) a n).symm
    by_cases hb : n % 2 = 1
    · rw [if_pos hb, if_pos ((obit_iff n).2 hb)]; rfl
    · rw [if_neg hb, if_neg (fun h => hb ((obit_iff n).1 h))]; rfl
theorem SqRel.done {a0 n0 a : Nat} {pre : List Sq} (h : SqRel a0 n0 pre a 0) : prodS pre = powP a0 n0 := by
  have h3 := h.2.2
  rw [Nat.pow_zero, Nat.mul_one] at h3
  exact (Nat.mod_eq_of_lt (prodS_lt pre)).symm.trans h3

theorem mul_rngN {a b : Nat} (ha : a < 2147483579) (hb : b < 2147483579) : a * b ≤ 4611685743549480100 := by
  have h : a * b ≤ 2147483578 * 2147483578 := Nat.mul_le_mul (by omega) (by omega)
  omega

set_option maxRecDepth 100000 in
set_option maxHeartbeats 2000000 in
theorem squares_loop (L ba bn a0 n0 : Nat) (S : Nat → Prop) (hne : ba ≠ bn) (ha : S ba) (hbn : S bn) (J Jx : List Sq → World → Prop) (W : World) (hJab : AbT (fun k => k = ba ∨ k = bn) W.heap.size J)
    (hY : ∀ pre x W1, J pre W1 → pre.length < 31 → YieldAt Fence.wide (2 + 1 - 1) Tryd.prog L x.encs W1 fun e W' =>
      (e = .returned (.bool true) ∧ J (pre ++ [x]) W' ∧ Keeps S W1 W') ∨ (e = .returned (.bool false) ∧ Jx (pre ++ [x]) W'))
    (hB : Blk W ba 3 #[.int .i64 a0]) (hN : Blk W bn 3 #[.int .i64 n0]) (h0 : J [] W) (ha0 : a0 < 2147483579) (hn0 : n0 < 1073741789) :
    CallsIn Fence.wide (2 + 1) Tryd.prog 75 #[.func (.yield L) #[] #[], .pointer (some ⟨bn, 0, none⟩), .pointer (some ⟨ba, 0, none⟩)] W fun e W' => (∃ v, e = .returned v) ∧
      ((∃ ys, prodS ys = powP a0 n0 ∧ J ys W') ∨ (∃ pre, True ∧ Jx pre W')) := by
  refine callsIn_of_wp Tryd.func75 rfl trivial ?_ rfl
  simp only [Tryd.ntmps75, List.size_toArray, List.length_cons, List.length_nil, Nat.reduceAdd, Nat.reduceSub, Array.replicate_succ, Array.replicate_zero, List.push_toArray, List.append_toArray, List.nil_append, List.cons_append]
  gi_wp2
  gi_loopw [] (fun wr => ∃ (pre : List Sq) (a n : Nat), Blk wr ba 3 #[.int .i64 a] ∧ Blk wr bn 3 #[.int .i64 n] ∧ J pre wr ∧ Hid (SqRel a0 n0 pre a n)) (fun wr => (intOf ((wr.cell? ⟨bn, 0, none⟩).getD undef)).toNat)
  case atStart => exact ⟨[], a0, n0, hB, hN, h0, SqRel.start ha0 hn0⟩
  case round =>
    clear hB hN h0
    obtain ⟨pre, a, n, hB, hN, hJ, hr⟩ := hrel
    have hn62 : n < 2 ^ 31 := Nat.lt_of_lt_of_le hr.out.2.1 (Nat.pow_le_pow_right (by omega) (by omega))
    have haP := hr.out.1
    have c1 : wr.cell? ⟨bn, 0, none⟩ = some (.int .i64 n) := hN.cell 0
    have c2 : wr.cell? ⟨ba, 0, none⟩ = some (.int .i64 a) := hB.cell 0
    by_cases hn : 0 < n
    · obtain ⟨hnx, hlen⟩ := hr.out.next hn
      have Hnx := Lib.hid hnx
      clear hnx
      obtain ⟨fn, tmps, assign, body, hy, hR⟩ := hY pre ⟨a, obit n, haP⟩ wr hJ hlen
      dsimp only [Sq.encs, obit] at hy
      have hm1 := mul_rngN haP haP
      gi_wp2
      refine hR.mono ?_
      rintro e W3 (⟨rfl, hJ3, hk3⟩ | ⟨rfl, hJx3⟩)
      · have hB3 : Blk W3 ba 3 #[.int .i64 a] := (hk3.same _ ha).trans hB
        have hN3 : Blk W3 bn 3 #[.int .i64 n] := (hk3.same _ hbn).trans hN
        have d1 : W3.cell? ⟨bn, 0, none⟩ = some (.int .i64 n) := hN3.cell 0
        have d2 : W3.cell? ⟨ba, 0, none⟩ = some (.int .i64 a) := hB3.cell 0
        have f1 := hN3.frozen 0
        have f2 := hB3.frozen 0
        have C1 := Lib.hid c1
        clear c1 c2 hB hN
        have hne' : bn ≠ ba := fun e => hne e.symm
        have e1 : ((a : Int) * a % 2147483579) = ((a * a % 2147483579 : Nat) : Int) := by simp
        have e2 : (n : Int) / 2 = ((n / 2 : Nat) : Int) := by simp
        have E1 := Lib.hid e1
        have E2 := Lib.hid e2
        clear e1 e2
        gi_wp2
        rw [E1.out, E2.out]
        have hN4 := (hN3.far (p := ⟨ba, 0, none⟩) hne' (.int .i64 (a * a % 2147483579 : Nat))).set_ 0 (.int .i64 (n / 2 : Nat))
        refine ⟨⟨_, _, _, (hB3.set_ 0 _).far (p := ⟨bn, 0, none⟩) hne _, hN4, hJab.2 _ _ _ _ (hJab.2 _ _ _ _ hJ3 (.inl rfl)) (.inr rfl), Hnx⟩, ?_⟩
        have e3 := hN4.cell 0
        rw [e3, C1.out]
        simp [intOf]
        omega
      · gi_wp2
        refine bodyPost_ret (results_none rfl _ _ _) rfl ?_
        exact ⟨⟨_, rfl⟩, .inr ⟨_, trivial, hJx3⟩⟩
    · obtain rfl : n = 0 := by omega
      have hd := Lib.hid hr.out.done
      gi_wp2
      go_end0
      exact ⟨⟨_, rfl⟩, .inl ⟨_, hd.out, hJ⟩⟩

theorem squares_stops (ba bn a0 n0 : Nat) (S : Nat → Prop) (hne : ba ≠ bn) (ha : S ba) (hb : S bn) (w : World)
    (hB : Blk w ba 3 #[.int .i64 a0]) (hN : Blk w bn 3 #[.int .i64 n0]) (ha0 : a0 < 2147483579) (hn0 : n0 < 1073741789) :
    SeqT (fun k => k = ba ∨ k = bn) (2 + 1) Tryd.prog 75 #[.pointer (some ⟨bn, 0, none⟩), .pointer (some ⟨ba, 0, none⟩)] Sq.encs (Keeps S) (fun ys => prodS ys = powP a0 n0) (fun _ => True) 31 w := by
  intro L J Jx W hW hJ _ hY h0
  exact squares_loop L ba bn a0 n0 S hne ha hb J Jx W hJ hY (hB.below hW hB.lt) (hN.below hW hN.lt) h0 ha0 hn0

/-- What Pow gives. -/
def powV (a n : Int) : Int := if validB a = true then (powP a.toNat (expN n) : Int) else 0
def powE (a : Int) : Int := if validB a = true then 0 else 90

set_option maxRecDepth 100000 in
set_option maxHeartbeats 2000000 in
theorem group_pow (a n : Int) (W : World) : Calls Tryd.prog 22 #[.int .i64 a, .int .i64 n] W (Ret (.tuple #[.int .i64 (powV a n), .int .i64 (powE a)]) W) := by
  refine calls_of_wp_dm Tryd.func22 rfl ?_
  simp only [Tryd.ntmps22, List.size_toArray, List.length_cons, List.length_nil, Nat.reduceAdd, Nat.reduceSub, Array.replicate_succ, Array.replicate_zero, List.push_toArray, List.append_toArray, List.nil_append, List.cons_append]
  have q1 := group_valid a (W.alloc (.cells #[.int .i64 0] 3))
  have BC := Blk.new W 3 #[.int .i64 0] _ rfl
  have hbW := bAl (bRefl W) (.cells #[.int .i64 0] 3)
  cases ha : validB a
  · have hv : Hid (powV a n = 0) := if_neg (by simp [ha])
    have he : Hid (powE a = 90) := if_neg (by simp [ha])
    rw [ha] at q1
    clear ha
    go_wp2_with fail
    refine q1.mono ?_
    rintro e w' ⟨rfl, rfl⟩
    generalize W.alloc (.cells #[.int .i64 0] 3) = w1 at *
    have c0 : w1.cell? ⟨W.heap.size, 0, none⟩ = some (.int .i64 0) := BC.cell 0
    have c1 := BC.frozen 0
    go_wp2_with fail
    have e1 := (BC.set_ 0 (.int .i64 0)).cell 0
    exact ⟨.tuple #[.int .i64 0, .int .i64 90], by simp [results, Tryd.results22, go_sem, e1], ret_ii hv.out.symm he.out.symm, bSet hbW (Nat.le_refl _) _⟩
  · have hv : Hid (powV a n = (powP a.toNat (expN n) : Int)) := if_pos ha
    have he : Hid (powE a = 0) := if_pos ha
    obtain ⟨a1, a2⟩ := validB_rng ha
    obtain ⟨a0, rfl⟩ := Int.eq_ofNat_of_zero_le (show 0 ≤ a by omega)
    rw [Int.toNat_natCast] at hv
    have ha0 : a0 < 2147483579 := by omega
    rw [ha] at q1
    clear ha
    go_wp2_with fail
    refine q1.mono ?_
    rintro e w' ⟨rfl, rfl⟩
    clear q1
    generalize W.alloc (.cells #[.int .i64 0] 3) = w1 at *
    have c0 : w1.cell? ⟨W.heap.size, 0, none⟩ = some (.int .i64 0) := BC.cell 0
    have c1 := BC.frozen 0
    go_upto_region 4 with fail
    have BC2 := BC.set_ 0 (.int .i64 1)
    have hbW2 := bSet hbW (Nat.le_refl _) (p := ⟨W.heap.size, 0, none⟩) (.int .i64 1)
    simp at BC2
    clear BC hbW c0 c1
    generalize w1.setCell ⟨W.heap.size, 0, none⟩ (.int .i64 1) = w2 at *
    go_wp2_with fail
    refine (group_least _ 1 1 [n] _ (by exact Rd.new _ _ _ _ _ _ rfl rfl) (by omega)).mono ?_
    rintro e w' ⟨rfl, rfl⟩
    rw [leastV_one]
    go_wp2_with fail
    refine (squares_any _ _ _).mono ?_
    rintro e w' ⟨rfl, rfl⟩
    go_wp2_with fail
    have BA := (Blk.new (w2.alloc (.cells #[.int .i64 n] 3)) 3 #[.int .i64 a0] (w2.heap.size + 1) (by simp)).alloc (.cells #[.int .i64 (expN n)] 3)
    have BN := Blk.new ((w2.alloc (.cells #[.int .i64 n] 3)).alloc (.cells #[.int .i64 a0] 3)) 3 #[.int .i64 (expN n)] (w2.heap.size + 1 + 1) (by simp)
    have BC3 := ((BC2.alloc (.cells #[.int .i64 n] 3)).alloc (.cells #[.int .i64 a0] 3)).alloc (.cells #[.int .i64 (expN n)] 3)
    have hbW3 := bAl (bAl (bAl hbW2 (.cells #[.int .i64 n] 3)) (.cells #[.int .i64 a0] 3)) (.cells #[.int .i64 (expN n)] 3)
    have hsW : W.heap.size < w2.heap.size := BC2.lt
    generalize ((w2.alloc (.cells #[.int .i64 n] 3)).alloc (.cells #[.int .i64 a0] 3)).alloc (.cells #[.int .i64 (expN n)] 3) = w3 at *
    generalize w2.heap.size = bs at *
    have hb1 := BA.lt
    have hb2 := BN.lt
    clear BC2 hbW2
    refine wp_rangeFuncT 2 (gf := 75) (lb := #[.pointer (some ⟨bs + 1 + 1, 0, none⟩), .pointer (some ⟨bs + 1, 0, none⟩)]) rfl (enters_of Tryd.func75 (by kernel_rfl) rfl)
      (S := fun ys => prodS ys = powP a0 (expN n)) (Sp := fun _ => True) (N := 31) (w0 := w3)
      (squares_stops (bs + 1) (bs + 1 + 1) a0 (expN n) (fun k => k = bs + 1 ∨ k = bs + 1 + 1) (by omega) (.inl rfl) (.inr rfl) w3 BA BN ha0 (expN_lt n))
      (fun k hk => by omega)
      Keeps.trans (Keeps.put (fun k hk => by omega)) (bRefl _) (fun _ => rfl)
      (fun pre W' => Blk W' W.heap.size 3 #[.int .i64 (prodS pre)] ∧ Below W.heap.size W W')
      (fun x a₁ pre W' => (Blk W' W.heap.size 3 #[.int .i64 (prodS pre)] ∧ Below W.heap.size W W') ∧ a₁ = { tmps := #[.int .i64 a0, .int .i64 n, undef, undef, .pointer (some ⟨W.heap.size, 0, none⟩), .int .i64 0, .int .i64 x.sq, .bool x.bit, .int .i64 a0, .bool true, .bool false, .int .i64 a0, .int .i64 n, .slice (some ⟨bs, 0, none⟩) 1 1, .int .i64 (expN n),
        .func (.func 75) #[] #[.pointer (some ⟨bs + 1 + 1, 0, none⟩), .pointer (some ⟨bs + 1, 0, none⟩)], .int .i64 x.sq, .bool x.bit, undef, undef, undef, undef, undef, undef], defers := [] })
      (fun _ _ _ => False)
      (fun pre A' B' row h hg hr => ⟨h.1.kept hg hr, bGrown h.2 hg hbW3.size hr⟩)
      (fun x a pre A' B' row h hg hr => ⟨⟨h.1.1.kept hg hr, bGrown h.1.2 hg hbW3.size hr⟩, h.2⟩)
      (fun _ _ _ _ _ h _ _ => h)
      (fun pre W' p v h ht => ⟨h.1.far (by intro e; rw [← e] at ht; omega) _, bSet h.2 (by omega) _⟩)
      (fun _ _ _ _ _ h _ => h)
      ⟨BC3, hbW3⟩ ?assign ?body ?done ?stop
    case assign =>
      rintro L pre x Wc ⟨hL, hbc⟩ hlen
      dsimp only [Sq.encs]
      gi_wp2
      exact ⟨KeepsOthers.refl _, Keeps.refl _ _, ⟨hL, hbc⟩, trivial⟩
    case body =>
      rintro L pre x a₁ Wc ⟨⟨hL, hbc⟩, rfl⟩ hlen
      have d1 : Wc.cell? ⟨W.heap.size, 0, none⟩ = some (.int .i64 (prodS pre)) := hL.cell 0
      have d2 := hL.frozen 0
      have hpl := prodS_lt pre
      have hsq := x.lt
      have hm := mul_rngN hpl hsq
      have hsn := Lib.hid (prodS_snoc pre x)
      cases hbit : x.bit
      · have hs1 : Hid (prodS (pre ++ [x]) = prodS pre) := by show _ = _; rw [hsn.out, hbit]; rfl
        clear hbit
        gi_wp2
        exact ⟨KeepsOthers.refl _, Keeps.refl _ _, by rw [hs1.out]; exact hL, hbc⟩
      · have hs1 : Hid (((prodS pre : Int) * x.sq % 2147483579) = ((prodS (pre ++ [x]) : Nat) : Int)) := by show _ = _; rw [hsn.out, hbit, if_pos rfl]; simp [Pn]
        clear hbit
        gi_wp2
        rw [hs1.out]
        exact ⟨KeepsOthers.setCell _ _ _, (Keeps.refl _ _).setCell (by show ¬ (W.heap.size = bs + 1 ∨ W.heap.size = bs + 1 + 1); omega) _, hL.set_ 0 _, bSet hbc (Nat.le_refl _) _⟩
    case done =>
      rintro D xs Wc hD hp ⟨hL, hbc⟩ hd
      have hp' := Lib.hid hp
      rw [hp] at hL
      clear hp
      have d1 : Wc.cell? ⟨W.heap.size, 0, none⟩ = some (.int .i64 (powP a0 (expN n))) := hL.cell 0
      have d2 := hL.frozen 0
      have hD' : W.heap.size ≤ D := Nat.le_trans hbW3.size hD
      have hdd : (Wc.setCell ⟨W.heap.size, 0, none⟩ (.int .i64 (powP a0 (expN n)))).heap[D]? = some (.deferred (some [])) := by
        rw [Below.heap_setCell _ _ _ _ (by intro e; subst e; unfold Blk at hL; rw [hL] at hd; cases hd)]; exact hd
      have hE2 := (hL.set_ 0 (.int .i64 (powP a0 (expN n)))).put (o' := .deferred none) hdd rfl
      go_wp2_with fail
      refine leavesM_mark (by simp) hdd ?_
      have e1 := hE2.cell 0
      exact ⟨.tuple #[.int .i64 (powP a0 (expN n)), .int .i64 0], by simp [results, Tryd.results22, go_sem, e1], ret_ii hv.out.symm he.out.symm, bPut (bSet hbc (Nat.le_refl _) _) hD' _⟩
    case stop =>
      rintro D c' pre Wc _ _ h _
      exact h.elim

end Go.Proofs.YtoeobcmmafncmaaDoor
