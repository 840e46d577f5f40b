/-
  append onto a row of the call's own: what else has changed (nothing), and where the new row lies.
-/
import Derived.Test.YthgppaiiapkdjaaGreatDoorMad
import Derived.Maps.AppendAt
import Derived.Test.YthgppaiiapkdjaaGreatDoorMae
namespace Go.Proofs.YthgppaiiapkdjaaGreatDoor
open Go.RowKit

/-- w' is w with new blocks, and with stores into v's own block; v' lies there or in a new block. -/
def Grew (w w' : World) (v v' : Value) : Prop := w.grownBy w' v.ownBlock ∧ (v'.ownBlock = v.ownBlock ∨ ∃ g, v'.ownBlock = some g ∧ w.heap.size ≤ g)
theorem Grew.refl (w : World) (v : Value) : Grew w w v v := ⟨World.grownBy.refl _ _, .inl rfl⟩
theorem Grew.trans {w w1 w2 : World} {v v1 v2 : Value} (h : Grew w w1 v v1) (k : Grew w1 w2 v1 v2) : Grew w w2 v v2 := by
  obtain ⟨h1, h2⟩ := h
  obtain ⟨k1, k2⟩ := k
  refine ⟨⟨k1.1.trans h1.1, k1.2.trans h1.2, k1.3.trans h1.3, Nat.le_trans h1.size k1.size, fun i hi hr => ?_⟩, ?_⟩
  · refine (k1.block i (Nat.lt_of_lt_of_le hi h1.size) ?_).trans (h1.block i hi hr)
    rcases h2 with e | ⟨g, e, hg⟩
    · rw [e]; exact hr
    · rw [e]; intro e2; injection e2 with e2; omega
  · rcases k2 with e | ⟨g, e, hg⟩
    · rcases h2 with e2 | ⟨g2, e2, hg2⟩
      · exact .inl (e.trans e2)
      · exact .inr ⟨g2, e.trans e2, hg2⟩
    · exact .inr ⟨g, e, Nat.le_trans h1.size hg⟩
/-- After blocks of one's own and draws. -/
theorem Grew.pre {w w1 w2 : World} {v v' : Value} (hb : Below w.heap.size w w1) (h : Grew w1 w2 v v') : Grew w w2 v v' := by
  obtain ⟨h1, h2⟩ := h
  refine ⟨⟨h1.1.trans hb.os, h1.2.trans hb.tape, h1.3.trans hb.output, Nat.le_trans hb.size h1.size, fun i hi hr => (h1.block i (Nat.lt_of_lt_of_le hi hb.size) hr).trans (hb.block i hi)⟩, ?_⟩
  rcases h2 with e | ⟨g, e, hg⟩
  · exact .inl e
  · exact .inr ⟨g, e, Nat.le_trans hb.size hg⟩
theorem Grew.post {w w1 w2 : World} {v v' : Value} (h : Grew w w1 v v') (hb : Below w1.heap.size w1 w2) : Grew w w2 v v' := by
  obtain ⟨h1, h2⟩ := h
  exact ⟨⟨hb.os.trans h1.1, hb.tape.trans h1.2, hb.output.trans h1.3, Nat.le_trans h1.size hb.size, fun i hi hr => (hb.block i (Nat.lt_of_lt_of_le hi h1.size)).trans (h1.block i hi hr)⟩, h2⟩
theorem Grew.size {w w' : World} {v v' : Value} (h : Grew w w' v v') : w.heap.size ≤ w'.heap.size := h.1.size
/-- A block of another type stays. -/
theorem Grew.blk {w w' : World} {v v' : Value} {base : Nat} {e t : TypeId} {size n g : Nat} {xs : List Value} {cs : Array Value} (h : Grew w w' v v') (hown : w.ownsRow base e size v n xs) (hB : Blk w g t cs) (hne : t ≠ e) : Blk w' g t cs := by
  refine (h.1.block g hB.lt ?_).trans hB
  rcases hown.2 with ⟨rfl, _⟩ | ⟨g2, cap, cur, rfl, _, hg, _⟩
  · simp [Value.ownBlock]
  · intro e2
    have e3 : g = g2 := by simpa [Value.ownBlock] using e2
    subst e3
    unfold Blk at hB
    rw [hB] at hg
    simp at hg
    exact hne hg.2
/-- What lay below the row's base stays. -/
theorem Grew.below {w w' : World} {v v' : Value} {base : Nat} {e : TypeId} {size n : Nat} {xs : List Value} (h : Grew w w' v v') (hown : w.ownsRow base e size v n xs) (hb : base ≤ w.heap.size) : Below base w w' :=
  (Below.refl _ _).grown h.1 hb (fun k hk => (hown.lt k hk).1)
/-- A map, or whatever block is not the row's own. -/
theorem Grew.other {w w' : World} {v v' : Value} {g : Nat} (h : Grew w w' v v') (hg : g < w.heap.size) (hne : some g ≠ v.ownBlock) : w'.heap[g]? = w.heap[g]? := h.1.block g hg hne

theorem wpList_appendG {P : Program} {ops : Array Oper} {rest : List Oper} {o : Oper} {a : Act} {Q : Exit → Act → World → Prop} {w : World} (s x : Operand) (t : TypeId)
    (base : Nat) (e : TypeId) (z : Value) (size bytes : Nat) (v : Value) (n : Nat) (xs : List Value) (A : Option Addr) (m c B : Nat) (news : List Value) (hgd : o.guard = none)
    (ho : o.op = .call { callee := .builtin .append, args := #[s, x], argTypes := #[t, t] })
    (ht : P.underlying t = some (.slice e)) (hinfo : (P.info? e).map (fun i => (i.zero, i.size, i.bytes)) = some (some z, size, bytes)) (hzs : z.cells.size = size) (hsz : 0 < size)
    (hs : a.eval s = v) (hown : w.ownsRow base e size v n xs) (hx : a.eval x = .slice A m c) (hr : Rd w B size A m news) (hnil : A = none → m = 0 ∧ c = 0) (h1 : ∀ u ∈ news, u.oneCell' = true)
    (h63 : n + m ≤ maxLen) (hbytes : (n + m) * bytes ≤ 140737488355328) (hbase : base ≤ w.heap.size)
    (h : ∀ v' w', w'.ownsRow base e size v' (n + m) (xs ++ news) → Grew w w' v v' → wpList P ops Q rest (a.put o.dst v') w') :
    wpList P ops Q (o :: rest) a w := by
  obtain ⟨i0, hi, hz0, hz1, hz2⟩ := info_parts hinfo
  cases A with
  | none =>
    obtain ⟨rfl, rfl⟩ := hnil rfl
    have hn0 : news = [] := List.eq_nil_of_length_eq_zero (by rw [hr.1]; simp)
    subst hn0
    refine wpList_append_own_none hgd s x t ho base e i0 size ht hi v n xs hs hown hx ?_
    exact h v w (by simpa using hown) (Grew.refl _ _)
  | some ad =>
    refine wpList_append_own_at w hgd s x t ho base e i0 z size bytes ht hi hz0 hz1 hz2 hzs hsz v n xs hs hown ad m c news hx hr.1 ?_ h1 h63 hbytes hbase ?_
    · intro j u hj
      rcases Nat.eq_zero_or_pos m with h0 | h0
      · subst h0
        have hn0 : news = [] := List.eq_nil_of_length_eq_zero (by rw [hr.1]; simp)
        subst hn0
        simp at hj
      · obtain ⟨b, off, he, _, hc⟩ := hr.2 h0
        injection he with he
        subst he
        rw [addr_plus]
        exact hc j u hj
    · intro v' w' hown' hgrow _ hat
      refine h v' w' hown' ⟨hgrow, ?_⟩
      rcases hat with e | e
      · exact .inl e
      · exact .inr ⟨_, e, Nat.le_refl _⟩
/-- append of one element that has just been laid. -/
theorem wpList_append1G {P : Program} {ops : Array Oper} {rest : List Oper} {o : Oper} {a : Act} {Q : Exit → Act → World → Prop} (w0 : World) (news : List Value) (s x : Operand) (t : TypeId)
    (base : Nat) (e : TypeId) (z : Value) (size bytes : Nat) (v : Value) (n : Nat) (xs : List Value) (hgd : o.guard = none)
    (ho : o.op = .call { callee := .builtin .append, args := #[s, x], argTypes := #[t, t] })
    (ht : P.underlying t = some (.slice e)) (hinfo : (P.info? e).map (fun i => (i.zero, i.size, i.bytes)) = some (some z, size, bytes)) (hzs : z.cells.size = size) (hsz : 0 < size)
    (hs : a.eval s = v) (hown : w0.ownsRow base e size v n xs) (hx : a.eval x = .slice (some ⟨w0.heap.size, 0, none⟩) 1 1) (hl : news.length = size) (h1 : ∀ u ∈ news, u.oneCell' = true)
    (h63 : n + 1 ≤ maxLen) (hbytes : (n + 1) * bytes ≤ 140737488355328) (hbase : base ≤ w0.heap.size)
    (h : ∀ v' w', w'.ownsRow base e size v' (n + 1) (xs ++ news) → Grew w0 w' v v' → wpList P ops Q rest (a.put o.dst v') w') :
    wpList P ops Q (o :: rest) a (w0.alloc (.cells news.toArray e)) := by
  refine wpList_appendG s x t base e z size bytes v n xs (some ⟨w0.heap.size, 0, none⟩) 1 1 _ news hgd ho ht hinfo hzs hsz hs (hown.alloc _) hx
    (Rd.new w0 news e size 1 _ rfl (by rw [hl, Nat.one_mul])) (fun h => by cases h) h1 h63 hbytes (by simp; omega) fun v' w' hown' hg => ?_
  exact h v' w' hown' (hg.pre (bAl (bRefl _) _))

end Go.Proofs.YthgppaiiapkdjaaGreatDoor

/-
  The codec in plain words: lists of numbers and texts, and their bytes. No program here.
-/
namespace Go.Proofs.YthgppaiiapkdjaaGreatDoor
open Go.RowKit

/-- A numeral. -/
def numF : Nat → Nat → List Nat
  | 0, u => [u % 256]
  | k + 1, u => if u < 128 then [u] else (u % 128 + 128) :: numF k (u / 128)
def numN (u : Nat) : List Nat := numF 10 u
/-- The unsigned form of an integer. -/
def unsN (n : Int) : Nat := if 0 ≤ n then (2 * n).toNat else (-2 * n - 1).toNat
theorem unsN_lt {n : Int} (h0 : -9223372036854775808 ≤ n) (h1 : n ≤ 9223372036854775807) : unsN n < 18446744073709551616 := by unfold unsN; split <;> omega
theorem numF_len : ∀ k u, 0 < (numF k u).length ∧ (numF k u).length ≤ k + 1
  | 0, _ => ⟨by simp [numF], by simp [numF]⟩
  | k + 1, u => by
    unfold numF
    split
    · simp
    · have := numF_len k (u / 128)
      simp; omega
theorem okB_numF : ∀ k u, okB (numF k u)
  | 0, u => by intro x hx; simp [numF] at hx; omega
  | k + 1, u => by
    unfold numF
    split
    · intro x hx; simp at hx; omega
    · intro x hx
      rw [List.mem_cons] at hx
      rcases hx with rfl | hx
      · omega
      · exact okB_numF k _ x hx

/-- A number or a text. -/
inductive It where
  | int (n : Int)
  | text (s : ByteArray)
def It.cells : It → List Value
  | .int n => [.int .i64 1, .int .i64 n, .string ⟨#[]⟩, .slice none 0 0]
  | .text s => [.int .i64 2, .int .i64 0, .string s, .slice none 0 0]
def It.agg (x : It) : Value := .agg x.cells.toArray
theorem It.cells_length (x : It) : x.cells.length = 4 := by cases x <;> rfl
def It.enc : It → List Nat
  | .int n => 1 :: numN (unsN n)
  | .text s => 2 :: (numN s.size ++ sb s)
/-- What fits. -/
def It.ok : It → Prop
  | .int n => -9223372036854775808 ≤ n ∧ n ≤ 9223372036854775807
  | .text s => s.size ≤ 1000000
def encL (l : List It) : List Nat := l.flatMap It.enc
/-- The encoding of a list. -/
def encN (l : List It) : List Nat := 3 :: (numN l.length ++ encL l)
theorem okB_enc (x : It) : okB x.enc := by
  intro y hy
  cases x with
  | int n =>
    rcases List.mem_cons.1 hy with rfl | hy
    · decide
    · exact okB_numF _ _ y hy
  | text s =>
    rcases List.mem_cons.1 hy with rfl | hy
    · decide
    · rcases List.mem_append.1 hy with hy | hy
      · exact okB_numF _ _ y hy
      · exact sb_ok s y hy
theorem okB_encN (l : List It) : okB (encN l) := by
  intro y hy
  rcases List.mem_cons.1 hy with rfl | hy
  · decide
  · rcases List.mem_append.1 hy with hy | hy
    · exact okB_numF _ _ y hy
    · obtain ⟨x, _, hx⟩ := List.mem_flatMap.1 hy
      exact okB_enc x y hx
theorem encL_snoc (l : List It) (x : It) : encL (l ++ [x]) = encL l ++ x.enc := by simp [encL]
theorem enc_len {x : It} (h : x.ok) : x.enc.length ≤ 1000012 := by
  cases x with
  | int n => have := (numF_len 10 (unsN n)).2; show (numN (unsN n)).length + 1 ≤ _; unfold numN; omega
  | text s =>
    have := (numF_len 10 s.size).2
    have h : s.size ≤ 1000000 := h
    show (numN s.size ++ sb s).length + 1 ≤ _
    rw [List.length_append, sb_len]
    unfold numN; omega
theorem encL_len : ∀ {l : List It}, (∀ x ∈ l, x.ok) → (encL l).length ≤ l.length * 1000012
  | [], _ => by simp [encL]
  | x :: l, h => by
    have h1 := enc_len (h x (List.mem_cons_self ..))
    have h2 := encL_len (l := l) (fun y hy => h y (List.mem_cons_of_mem _ hy))
    show (x.enc ++ encL l).length ≤ _
    rw [List.length_append, List.length_cons, Nat.succ_mul]
    omega
/-- Element k of a slice of such values. -/
theorem It_at {w : World} {B n k : Nat} {A : Option Addr} {l : List It} {x : It} (h : Rd w B 4 A n (l.flatMap It.cells)) (hn : k < n) (hx : l[k]? = some x) :
    ∃ b off, A = some ⟨b, off, none⟩ ∧ b < B ∧ ∀ j u, x.cells[j]? = some u → w.cell? ⟨b, off + k * 4 + j, none⟩ = some u := by
  obtain ⟨b, off, hA, hb, hc⟩ := h.2 (by omega)
  refine ⟨b, off, hA, hb, fun j u hu => ?_⟩
  have hj : j < 4 := by have := (List.getElem?_eq_some_iff.1 hu).1; rw [It.cells_length] at this; exact this
  have := hc (k * 4 + j) u (by rw [flat_at It.cells_length l k j x hx hj]; exact hu)
  rw [← Nat.add_assoc] at this
  exact this

end Go.Proofs.YthgppaiiapkdjaaGreatDoor
