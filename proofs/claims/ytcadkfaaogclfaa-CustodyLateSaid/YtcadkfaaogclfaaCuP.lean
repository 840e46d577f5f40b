/-
  Custody in plain words: events, what may follow, what is accepted. No program here.
-/
import Derived.Test.YtcadkfaaogclfaaWords
namespace Go.Proofs.Ytcadkfaaogclfaa
open Go.RowKit

structure Ev where
  letter : Int
  kind : Int
  time : Int
  office : Int

def Ev.cells (x : Ev) : List Value := [.int .i64 x.letter, .int .i64 x.kind, .int .i64 x.time, .int .i64 x.office]
def Ev.zero : Ev := ⟨0, 0, 0, 0⟩
theorem Ev.cells_length (x : Ev) : x.cells.length = 4 := rfl

def spanB (a b n : Int) : Bool := decide (a ≤ n) && decide (n ≤ b)
/-- Bit k of the number s. -/
def bitB (s k : Int) : Bool := decide (0 ≤ k ∧ k < 16) && (bits BinOp.and IntKind.u16 (s / 2 ^ k.toNat) 1 == 1)
/-- The set of what may follow. -/
def afterN (k : Int) : Int :=
  if k = 0 then 2 else if k = 1 then 260 else if k = 2 then 380 else if k = 4 then 260 else if k = 6 then 160 else 0

def followsB (b k : Int) : Bool :=
  if b = 0 then k == 1
  else if b = 1 || b = 4 then k == 2 || k == 8
  else if b = 2 then k == 2 || k == 3 || k == 4 || k == 5 || k == 6 || k == 8
  else if b = 6 then k == 5 || k == 7
  else false

def offLo (x : Ev) : Int := if bitB 130 x.kind = true then -1 else 0
def offHi (x : Ev) : Int := if bitB 130 x.kind = true then -1 else 23
def rightB (x : Ev) : Bool := spanB 0 1048576 x.letter && spanB 0 2097151 x.time && spanB (offLo x) (offHi x) x.office

/-- Does x come in time behind p, in the order of letters? -/
def timeB (p : Option Ev) (x : Ev) : Bool :=
  match p with
  | none => true
  | some y => if y.letter = x.letter then decide (y.time ≤ x.time) else true
def orderB (p : Option Ev) (x : Ev) : Bool :=
  match p with
  | none => true
  | some y => decide (y.letter ≤ x.letter)
def sameB (p : Option Ev) (x : Ev) : Bool :=
  match p with
  | none => false
  | some y => y.letter == x.letter
/-- The kind that stands before x. -/
def bfOf (p : Option Ev) (x : Ev) : Int :=
  match p with
  | none => 0
  | some y => if y.letter = x.letter then y.kind else 0
def nextB (p : Option Ev) (x : Ev) : Bool := timeB p x && (orderB p x && (followsB (bfOf p x) x.kind && rightB x))

def chk : Option Ev → List Ev → Bool
  | _, [] => true
  | p, x :: l => nextB p x && chk (some x) l

def check (l : List Ev) : Int := if 4096 < l.length then 2 else if chk none l then 0 else 460

theorem bit_after (b k : Int) (hb : 0 ≤ b) (hb8 : b ≤ 8) : bitB (afterN b) k = followsB b k := by
  have hk : (k < 0 ∨ 16 ≤ k) ∨ (0 ≤ k ∧ k < 16) := by omega
  rcases hk with hk | ⟨h0, h1⟩
  · have h1 : bitB (afterN b) k = false := by unfold bitB; rw [decide_eq_false (by omega)]; rfl
    rw [h1]
    unfold followsB
    have e1 : (k == 1) = false := by simp; omega
    have e2 : (k == 2) = false := by simp; omega
    have e3 : (k == 3) = false := by simp; omega
    have e4 : (k == 4) = false := by simp; omega
    have e5 : (k == 5) = false := by simp; omega
    have e6 : (k == 6) = false := by simp; omega
    have e7 : (k == 7) = false := by simp; omega
    have e8 : (k == 8) = false := by simp; omega
    simp [e1, e2, e3, e4, e5, e6, e7, e8]
  · obtain ⟨n, rfl⟩ := Int.eq_ofNat_of_zero_le h0
    obtain ⟨m, rfl⟩ := Int.eq_ofNat_of_zero_le hb
    have hn : n < 16 := by omega
    have hm : m < 9 := by omega
    have : ∀ m : Fin 9, ∀ n : Fin 16, bitB (afterN ((m.1 : Nat) : Int)) ((n.1 : Nat) : Int) = followsB ((m.1 : Nat) : Int) ((n.1 : Nat) : Int) := by decide +kernel
    exact this ⟨m, hm⟩ ⟨n, hn⟩

theorem timeB_eq {y x : Ev} (h : y.letter = x.letter) : timeB (some y) x = decide (y.time ≤ x.time) := if_pos h
theorem timeB_ne {y x : Ev} (h : ¬ y.letter = x.letter) : timeB (some y) x = true := if_neg h
theorem bfOf_eq {y x : Ev} (h : y.letter = x.letter) : bfOf (some y) x = y.kind := if_pos h
theorem bfOf_ne {y x : Ev} (h : ¬ y.letter = x.letter) : bfOf (some y) x = 0 := if_neg h

theorem sameB_eq {y x : Ev} (h : y.letter = x.letter) : sameB (some y) x = true := beq_iff_eq.2 h
theorem sameB_ne {y x : Ev} (h : ¬ y.letter = x.letter) : sameB (some y) x = false := beq_eq_false_iff_ne.2 h

theorem afterN_le (b : Int) : 0 ≤ afterN b ∧ afterN b < 65536 := by
  unfold afterN
  repeat (split; omega)
  omega

theorem bit130 (k : Int) : bitB 130 k = (k == 1 || k == 7) := by
  have hk : (k < 0 ∨ 16 ≤ k) ∨ (0 ≤ k ∧ k < 16) := by omega
  rcases hk with hk | ⟨h0, h1⟩
  · have h1 : bitB 130 k = false := by unfold bitB; rw [decide_eq_false (by omega)]; rfl
    rw [h1]
    have e1 : (k == 1) = false := by simp; omega
    have e7 : (k == 7) = false := by simp; omega
    rw [e1, e7]; rfl
  · obtain ⟨n, rfl⟩ := Int.eq_ofNat_of_zero_le h0
    have hn : n < 16 := by omega
    have : ∀ n : Fin 16, bitB 130 ((n.1 : Nat) : Int) = (((n.1 : Nat) : Int) == 1 || ((n.1 : Nat) : Int) == 7) := by decide +kernel
    exact this ⟨n, hn⟩
theorem rightB_iff (x : Ev) : rightB x = true ↔ (0 ≤ x.letter ∧ x.letter ≤ 1048576 ∧ 0 ≤ x.time ∧ x.time ≤ 2097151 ∧ ((x.kind = 1 ∨ x.kind = 7) → x.office = -1) ∧
    (¬ (x.kind = 1 ∨ x.kind = 7) → 0 ≤ x.office ∧ x.office ≤ 23)) := by
  unfold rightB spanB offLo offHi
  rw [bit130]
  by_cases h : x.kind = 1 ∨ x.kind = 7
  · have h' : (x.kind == 1 || x.kind == 7) = true := by simpa using h
    simp [h', h]; omega
  · have h' : (x.kind == 1 || x.kind == 7) = false := by simpa using h
    simp [h', h]; omega

theorem follows_iff (b k : Int) : followsB b k = true ↔ (b = 0 ∧ k = 1) ∨ ((b = 1 ∨ b = 4) ∧ (k = 2 ∨ k = 8)) ∨ (b = 2 ∧ (k = 2 ∨ k = 3 ∨ k = 4 ∨ k = 5 ∨ k = 6 ∨ k = 8)) ∨ (b = 6 ∧ (k = 5 ∨ k = 7)) := by
  unfold followsB
  split
  · simp; omega
  · split
    · rename_i h; simp at h; simp; omega
    · rename_i h; simp at h
      split
      · simp; omega
      · split
        · simp; omega
        · simp; omega

/-- What follows is a kind from 1 to 8. -/
theorem follows_kind {b k : Int} (h : followsB b k = true) : 1 ≤ k ∧ k ≤ 8 := by
  unfold followsB at h
  split at h
  · simp at h; omega
  · split at h
    · simp at h; omega
    · split at h
      · simp at h; omega
      · split at h
        · simp at h; omega
        · cases h

/-- Element k of a slice of events. -/
theorem Ev_at {w : World} {B n k : Nat} {A : Option Addr} {l : List Ev} {x : Ev} (h : Rd w B 4 A n (l.flatMap Ev.cells)) (hn : k < n) (hx : l[k]? = some x) :
    ∃ b off, A = some ⟨b, off, none⟩ ∧ b < B ∧ w.cell? ⟨b, off + k * 4, none⟩ = some (.int .i64 x.letter) ∧ w.cell? ⟨b, off + k * 4 + 1, none⟩ = some (.int .i64 x.kind) ∧
      w.cell? ⟨b, off + k * 4 + 2, none⟩ = some (.int .i64 x.time) ∧ w.cell? ⟨b, off + k * 4 + 3, none⟩ = some (.int .i64 x.office) := by
  obtain ⟨b, off, hA, hb, hc⟩ := h.2 (by omega)
  have hj : ∀ j u, j < 4 → x.cells[j]? = some u → w.cell? ⟨b, off + (k * 4 + j), none⟩ = some u := fun j u hj hu =>
    hc _ _ (by rw [flat_at Ev.cells_length l k j x hx hj]; exact hu)
  exact ⟨b, off, hA, hb, hj 0 _ (by omega) rfl, hj 1 _ (by omega) rfl, hj 2 _ (by omega) rfl, hj 3 _ (by omega) rfl⟩

theorem Ev_cells {w : World} {B n k b off : Nat} {l : List Ev} {x : Ev} (h : Rd w B 4 (some ⟨b, off, none⟩) n (l.flatMap Ev.cells)) (hn : k < n) (hx : l[k]? = some x) :
    w.cell? ⟨b, off + k * 4, none⟩ = some (.int .i64 x.letter) ∧ w.cell? ⟨b, off + k * 4 + 1, none⟩ = some (.int .i64 x.kind) ∧
      w.cell? ⟨b, off + k * 4 + 2, none⟩ = some (.int .i64 x.time) ∧ w.cell? ⟨b, off + k * 4 + 3, none⟩ = some (.int .i64 x.office) := by
  obtain ⟨b', off', hA, _, hc⟩ := Ev_at h hn hx
  injection hA with hA
  injection hA with h1 h2
  subst h1; subst h2
  exact hc

/-- What stands before place k. -/
def prevOf (l : List Ev) (k : Nat) : Option Ev := if k = 0 then none else l[k - 1]?
def lastOf (l : List Ev) (k : Nat) : Ev := (prevOf l k).getD Ev.zero

theorem prevOf_zero (l : List Ev) : prevOf l 0 = none := rfl
theorem prevOf_succ (l : List Ev) (k : Nat) (h : k < l.length) : prevOf l (k + 1) = some l[k] := by
  unfold prevOf; rw [if_neg (by omega)]; simp [h]
theorem lastOf_succ (l : List Ev) (k : Nat) (h : k < l.length) : lastOf l (k + 1) = l[k] := by
  unfold lastOf; rw [prevOf_succ l k h]; rfl

theorem chk_at {l : List Ev} {k : Nat} (h : k < l.length) (hc : chk none l = chk (prevOf l k) (l.drop k)) :
    chk none l = (nextB (prevOf l k) l[k] && chk (prevOf l (k + 1)) (l.drop (k + 1))) := by
  rw [hc, prevOf_succ l k h, List.drop_eq_getElem_cons h]; rfl

theorem prev_cases {l : List Ev} {k : Nat} (h : k ≤ l.length) : (k = 0 ∧ prevOf l k = none) ∨ (0 < k ∧ prevOf l k = some (lastOf l k)) := by
  rcases k with _ | k
  · exact .inl ⟨rfl, rfl⟩
  · exact .inr ⟨by omega, by rw [lastOf_succ l k (by omega), prevOf_succ l k (by omega)]⟩

theorem prev_at {l : List Ev} {k : Nat} {p : Option Ev} (hk : k ≤ l.length) (hp : prevOf l k = p) : (k = 0 ∧ p = none) ∨ (0 < k ∧ ∃ y, p = some y ∧ l[k - 1]? = some y) := by
  rcases k with _ | k
  · exact .inl ⟨rfl, hp.symm⟩
  · rw [prevOf_succ l k (by omega)] at hp
    exact .inr ⟨by omega, _, hp.symm, by simp⟩

/-- The kind before is one that there is. -/
def okP (p : Option Ev) : Prop := ∀ y, p = some y → 1 ≤ y.kind ∧ y.kind ≤ 8
theorem bfOf_le {p : Option Ev} {x : Ev} (h : okP p) : 0 ≤ bfOf p x ∧ bfOf p x ≤ 8 := by
  unfold bfOf
  split
  · omega
  · have := h _ rfl
    split <;> omega
theorem okP_next {p : Option Ev} {x : Ev} (h : followsB (bfOf p x) x.kind = true) : okP (some x) := by
  intro y hy; injection hy with hy; subst hy; exact follows_kind h

theorem check_bad {l : List Ev} (hn : l.length ≤ 4096) (h : chk none l = false) : check l = 460 := by
  unfold check; rw [if_neg (by omega), h]; rfl
theorem check_good {l : List Ev} (hn : l.length ≤ 4096) (h : chk none l = true) : check l = 0 := by
  unfold check; rw [if_neg (by omega), h]; rfl
theorem check_many {l : List Ev} (hn : ¬ l.length ≤ 4096) : check l = 2 := by unfold check; rw [if_pos (by omega)]
/-- One event that may not follow spoils all. -/
theorem chk_bad {l : List Ev} {k : Nat} {x : Ev} {p : Option Ev} (hx : l[k]? = some x) (hp : prevOf l k = p) (hc : chk none l = chk (prevOf l k) (l.drop k)) (h : nextB p x = false) : chk none l = false := by
  obtain ⟨hk, rfl⟩ := List.getElem?_eq_some_iff.1 hx
  rw [chk_at hk hc, hp, h]; rfl
theorem chk_on {l : List Ev} {k : Nat} {x : Ev} {p : Option Ev} (hx : l[k]? = some x) (hp : prevOf l k = p) (hc : chk none l = chk (prevOf l k) (l.drop k)) (h : nextB p x = true) :
    chk none l = chk (prevOf l (k + 1)) (l.drop (k + 1)) := by
  obtain ⟨hk, rfl⟩ := List.getElem?_eq_some_iff.1 hx
  rw [chk_at hk hc, hp, h]; rfl
theorem chk_end {l : List Ev} {k : Nat} (hk : l.length ≤ k) (hc : chk none l = chk (prevOf l k) (l.drop k)) : chk none l = true := by
  rw [hc, List.drop_of_length_le hk]; cases prevOf l k <;> rfl
theorem lastOf_some {l : List Ev} {k : Nat} {x : Ev} (hx : l[k]? = some x) : lastOf l (k + 1) = x ∧ prevOf l (k + 1) = some x := by
  obtain ⟨hk, rfl⟩ := List.getElem?_eq_some_iff.1 hx
  exact ⟨lastOf_succ l k hk, prevOf_succ l k hk⟩
theorem next_time {p : Option Ev} {x : Ev} (h : timeB p x = false) : nextB p x = false := by unfold nextB; rw [h]; rfl
theorem next_order {p : Option Ev} {x : Ev} (h : orderB p x = false) : nextB p x = false := by unfold nextB; rw [h]; simp
theorem next_fol {p : Option Ev} {x : Ev} (h : followsB (bfOf p x) x.kind = false) : nextB p x = false := by unfold nextB; rw [h]; simp
theorem next_right {p : Option Ev} {x : Ev} (h : rightB x = false) : nextB p x = false := by unfold nextB; rw [h]; simp
theorem next_yes {p : Option Ev} {x : Ev} (h : timeB p x = true) (h0 : orderB p x = true) (h' : followsB (bfOf p x) x.kind = true) (h'' : rightB x = true) : nextB p x = true := by
  unfold nextB; rw [h, h0, h', h'']; rfl

/-- The kind of the last event of a letter. -/
def kindAt (l : List Ev) (letter : Int) : Int := l.foldl (fun s x => if x.letter = letter then x.kind else s) 0
theorem kindAt_snoc (l : List Ev) (x : Ev) (letter : Int) : kindAt (l ++ [x]) letter = if x.letter = letter then x.kind else kindAt l letter := by simp [kindAt]
def statusK (l : List Ev) (letter : Int) : Int := if check l = 0 then (if spanB 0 1048576 letter = true then kindAt l letter else 0) else 0
def statusE (l : List Ev) (letter : Int) : Int := if check l = 0 then (if spanB 0 1048576 letter = true then 0 else 1) else check l

def settlesB (k : Int) : Bool := k == 3 || k == 4 || k == 5 || k == 6 || k == 8
/-- Is the letter i settled by the time t? -/
def settledB (l : List Ev) (i t : Int) : Bool := l.any fun x => x.letter == i && (decide (x.time ≤ t) && settlesB x.kind)
/-- The letters that are late, of the first n. -/
def lateUpto (l : List Ev) (by_ : List Int) (n : Nat) : List Int := ((List.range n).filter fun i : Nat => !settledB l (i : Int) (by_[i]?.getD 0)).map fun i : Nat => (i : Int)
def byOk (by_ : List Int) : Bool := by_.all fun t => spanB 0 2097151 t
def lateL (l : List Ev) (by_ : List Int) : List Int := if check l = 0 then (if by_.length ≤ 4096 then (if byOk by_ = true then lateUpto l by_ by_.length else []) else []) else []
def lateE (l : List Ev) (by_ : List Int) : Int := if check l = 0 then (if by_.length ≤ 4096 then (if byOk by_ = true then 0 else 1) else 1) else check l

theorem lateUpto_succ (l : List Ev) (by_ : List Int) (n : Nat) : lateUpto l by_ (n + 1) = lateUpto l by_ n ++ (if settledB l n (by_[n]?.getD 0) = true then [] else [(n : Int)]) := by
  unfold lateUpto
  rw [List.range_succ, List.filter_append, List.map_append]
  congr 1
  rw [List.filter_cons]
  cases h : settledB l n (by_[n]?.getD 0) <;> rfl
theorem lateUpto_le (l : List Ev) (by_ : List Int) (n : Nat) : (lateUpto l by_ n).length ≤ n := by
  unfold lateUpto
  rw [List.length_map]
  exact Nat.le_trans (List.length_filter_le _ _) (by simp)
theorem settledB_snoc (l : List Ev) (x : Ev) (i t : Int) : settledB (l ++ [x]) i t = (settledB l i t || (x.letter == i && (decide (x.time ≤ t) && settlesB x.kind))) := by
  simp [settledB]

end Go.Proofs.Ytcadkfaaogclfaa
