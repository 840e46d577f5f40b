/- Plain: the library's words for splitting, said anew. -/
import Derived.Test.YtmbopkcmbiommaaGreatDoorRac
import Derived.Lib.Split
import Derived.Lib.IndexBytes
import Derived.Test.YtmbopkcmbiommaaGreatDoorRbc
set_option maxRecDepth 1000000
set_option maxHeartbeats 16000000
namespace Go.Proofs.YtmbopkcmbiommaaGreatDoor
open Go
theorem byte_first (c : UInt8) : ∀ s : By, (Lib.indexByte s c = -1 ∧ ∀ x ∈ s, x ≠ c) ∨ ∃ a b, s = a ++ c :: b ∧ (∀ x ∈ a, x ≠ c) ∧ Lib.indexByte s c = (a.length : Int)
  | [] => .inl ⟨rfl, fun x h => by cases h⟩
  | y :: s => by
    unfold Lib.indexByte
    by_cases hy : y = c
    · subst hy
      exact .inr ⟨[], s, rfl, fun x h => (by cases h), by rw [if_pos (by simp)]; rfl⟩
    · rw [if_neg (by simpa using hy)]
      rcases byte_first c s with ⟨h1, h2⟩ | ⟨a, b, h1, h2, h3⟩
      · refine .inl ⟨by rw [if_pos (by rw [h1]; rfl)], fun x hx => ?_⟩
        rcases List.mem_cons.1 hx with rfl | hx
        · exact hy
        · exact h2 x hx
      · refine .inr ⟨y :: a, b, by rw [h1]; rfl, fun x hx => ?_, ?_⟩
        · rcases List.mem_cons.1 hx with rfl | hx
          · exact hy
          · exact h2 x hx
        · rw [h3, if_neg (by simp), List.length_cons]; omega
theorem splitK_eq (c : UInt8) : ∀ (n : Nat) (s : By), s.length ≤ n → Lib.splitK [c] 0 (Lib.count s [c]) s = splitC c s := by
  intro n
  induction n with
  | zero =>
    intro s h
    have : s = [] := List.eq_nil_of_length_eq_zero (by omega)
    subst this
    rfl
  | succ n ih =>
    intro s h
    rcases byte_first c s with ⟨h1, h2⟩ | ⟨a, b, rfl, h2, h3⟩
    · rw [Lib.count_miss ((Lib.index_one s c).trans h1), splitC_none h2]; rfl
    · have hi := (Lib.index_one (a ++ c :: b) c).trans h3
      rw [Lib.count_hit (by simp) hi, Nat.add_comm 1, splitC_cons h2]
      unfold Lib.splitK
      rw [if_neg (by rw [hi]; simp), hi]
      have e1 : (a ++ c :: b).drop (a.length + [c].length) = b := by
        rw [List.length_singleton, ← List.drop_drop, List.drop_left]; rfl
      rw [show ((a.length : Int)).toNat = a.length by omega, Nat.add_zero, List.take_left, e1, ih b (by simp at h; omega)]
def afterC : By → List By
  | [] => [[]]
  | x :: r => if x = 10 then [10] :: afterC r else match afterC r with
    | [] => [[x]]
    | h :: t => (x :: h) :: t
end Go.Proofs.YtmbopkcmbiommaaGreatDoor
namespace Go.Proofs.YtmbopkcmbiommaaGreatDoor
open Go Go.RowKit
def endsB (t : By) : Bool := decide (t.getLast? = some 10)
def cutA (t : By) : By := if endsB t = true then t.dropLast else t
theorem ends_eq (t : By) : Lib.hasSuffix t [10] = endsB t := by
  unfold Lib.hasSuffix endsB
  rw [Bool.eq_iff_iff, List.isSuffixOf_iff_suffix, decide_eq_true_eq, List.getLast?_eq_some_iff]
  constructor
  · rintro ⟨a, h⟩
    exact ⟨a, h.symm⟩
  · rintro ⟨a, h⟩
    exact ⟨a, h.symm⟩
theorem cut_eq (t : By) : Lib.trimSuffix t [10] = cutA t := by
  unfold Lib.trimSuffix cutA
  rw [ends_eq]
  split
  · rw [List.dropLast_eq_take]; rfl
  · rfl
theorem cutNl_eq (t : By) : cutNl t = if endsB t = true then some (cutA t) else none := by
  unfold cutNl cutA endsB
  by_cases h : t.getLast? = some 10
  · simp [h]
  · simp [h]
theorem cut_suffix (s : ByteArray) (w : World) (hs : s.size ≤ 1000000) : Calls Tryz.prog 53 #[.string s, .string ⟨#[10]⟩] w (Same (.tuple #[.string ⟨(cutA s.data.toList).toArray⟩, .bool (endsB s.data.toList)]) w) := by
  refine (Any.strings_CutSuffix strL104 s ⟨#[10]⟩ w (by omega)).mono ?_
  rintro e w' ⟨rfl, rfl⟩
  refine ⟨?_, rfl⟩
  rw [← ends_eq, ← cut_eq]
theorem string_info9 : (Tryz.prog.info? (strR.t 9)).map (fun i => (i.zero, i.size, i.bytes)) = some (some (.string ByteArray.empty), 1, 16) := by kernel_rfl
theorem split_sp (B : Nat) (s : ByteArray) (w : World) (hs : s.size ≤ 1000000) (hG : LibG B w) : Calls Tryz.prog 54 #[.string s, .string ⟨#[32]⟩] w (fun r w' => ∃ l : List ByteArray, r = .returned (.slice (some ⟨w.heap.size, 0, none⟩) l.length l.length) ∧ w' = w.alloc (.cells (strs l).toArray 9) ∧ bys l = splitC 32 s.data.toList) := by
  obtain ⟨m, hm⟩ := hG.mx
  refine (Any.strings_Split strL146 string_info9 s ⟨#[32]⟩ m w (by omega) hm (by decide)).mono ?_
  rintro e w' ⟨rfl, rfl⟩
  have hlen := Lib.splitB_all ⟨#[32]⟩ (by decide) 0 _ s rfl
  refine ⟨Lib.splitB ⟨#[32]⟩ 0 (Lib.countB s ⟨#[32]⟩) s, by rw [hlen], rfl, ?_⟩
  unfold bys
  rw [Lib.splitB_data]
  exact splitK_eq 32 _ s.data.toList (Nat.le_refl _)
theorem firstI_map {s : ByteArray} (L : List By) : firstI (fun t => decide (s = t)) (L.map (fun w => (⟨w.toArray⟩ : ByteArray))) = firstI (fun t => decide (s.data.toList = t)) L := by
  unfold firstI
  rw [List.findIdx?_map]
  have e : ((fun t => decide (s = t)) ∘ fun w : By => (⟨w.toArray⟩ : ByteArray)) = (fun t => decide (s.data.toList = t)) := by
    funext a
    show decide (s = (⟨a.toArray⟩ : ByteArray)) = decide (s.data.toList = a)
    rw [Bool.eq_iff_iff, decide_eq_true_eq, decide_eq_true_eq]
    constructor
    · rintro rfl; rfl
    · rintro rfl; rfl
  rw [e]
theorem row_place (s : ByteArray) : firstI (fun t => decide (s = t)) rowsB = (rowN s.data.toList : Int) - 1 := by
  have e : rowsB = wordsL.map (fun w => (⟨w.toArray⟩ : ByteArray)) := rfl
  rw [e, firstI_map]
  generalize s.data.toList = t
  by_cases h1 : t = wordN 1
  · rw [h1]; rfl
  by_cases h2 : t = wordN 2
  · rw [h2]; rfl
  by_cases h3 : t = wordN 3
  · rw [h3]; rfl
  by_cases h4 : t = wordN 4
  · rw [h4]; rfl
  by_cases h5 : t = wordN 5
  · rw [h5]; rfl
  by_cases h6 : t = wordN 6
  · rw [h6]; rfl
  by_cases h7 : t = wordN 7
  · rw [h7]; rfl
  by_cases h8 : t = wordN 8
  · rw [h8]; rfl
  by_cases h9 : t = wordN 9
  · rw [h9]; rfl
  by_cases h10 : t = wordN 10
  · rw [h10]; rfl
  have hr : rowN t = 0 := by
    unfold rowN
    rw [if_neg h1, if_neg h2, if_neg h3, if_neg h4, if_neg h5, if_neg h6, if_neg h7, if_neg h8, if_neg h9, if_neg h10]
  rw [hr, firstI_none]
  · rfl
  · intro y hy
    refine decide_eq_false fun e => ?_
    subst e
    simp only [wordsL, List.mem_cons, List.not_mem_nil, or_false] at hy
    rcases hy with h | h | h | h | h | h | h | h | h | h
    · exact h1 h
    · exact h2 h
    · exact h3 h
    · exact h4 h
    · exact h5 h
    · exact h6 h
    · exact h7 h
    · exact h8 h
    · exact h9 h
    · exact h10 h
theorem rowN_beq {t : By} {k : Nat} (hk : 1 ≤ k ∧ k ≤ 10) : (t == wordN k) = decide (rowN t = k) := by
  rw [Bool.eq_iff_iff, beq_iff_eq, decide_eq_true_eq]
  constructor
  · rintro rfl
    obtain ⟨h1, h2⟩ := hk
    have : k = 1 ∨ k = 2 ∨ k = 3 ∨ k = 4 ∨ k = 5 ∨ k = 6 ∨ k = 7 ∨ k = 8 ∨ k = 9 ∨ k = 10 := by omega
    rcases this with rfl | rfl | rfl | rfl | rfl | rfl | rfl | rfl | rfl | rfl <;> rfl
  · intro h
    unfold rowN at h
    split at h
    · rename_i e; rw [e, ← h]
    split at h
    · rename_i e; rw [e, ← h]
    split at h
    · rename_i e; rw [e, ← h]
    split at h
    · rename_i e; rw [e, ← h]
    split at h
    · rename_i e; rw [e, ← h]
    split at h
    · rename_i e; rw [e, ← h]
    split at h
    · rename_i e; rw [e, ← h]
    split at h
    · rename_i e; rw [e, ← h]
    split at h
    · rename_i e; rw [e, ← h]
    split at h
    · rename_i e; rw [e, ← h]
    omega
theorem fol_eq (s l : ByteArray) : folB (fun s => firstI (fun t => decide (s = t)) rowsB) s l = followsN (rowN s.data.toList) (rowN l.data.toList) := by
  unfold folB
  simp only [row_place, ByteArray.toList_eq]
  have w1 := rowN_beq (t := s.data.toList) (k := 1) (by decide)
  have w4 := rowN_beq (t := s.data.toList) (k := 4) (by decide)
  have w5 := rowN_beq (t := s.data.toList) (k := 5) (by decide)
  have w6 := rowN_beq (t := s.data.toList) (k := 6) (by decide)
  have l4 := rowN_beq (t := l.data.toList) (k := 4) (by decide)
  have l5 := rowN_beq (t := l.data.toList) (k := 5) (by decide)
  have l6 := rowN_beq (t := l.data.toList) (k := 6) (by decide)
  have g6 : rowN (wordN 6) = 6 := rfl
  rw [show ([119, 111, 114, 108, 100] : By) = wordN 1 from rfl, show ([108, 105, 110, 101] : By) = wordN 4 from rfl, show ([114, 117, 108, 101] : By) = wordN 5 from rfl, show ([103, 97, 112] : By) = wordN 6 from rfl, w1, w4, w5, w6, l4, l5, l6]
  generalize rowN s.data.toList = r at *
  generalize rowN l.data.toList = k at *
  unfold followsN
  simp only [decide_eq_true_eq]
  by_cases h1 : r = 1
  · rw [if_pos h1, if_pos h1]; rw [Bool.eq_iff_iff]; simp; omega
  · rw [if_neg h1, if_neg h1]
    by_cases h4 : r = 4
    · rw [if_pos h4, if_pos h4, g6]; rw [Bool.eq_iff_iff]; simp; omega
    · rw [if_neg h4, if_neg h4]
      by_cases h5 : r = 5
      · rw [if_pos h5, if_pos h5]; rw [Bool.eq_iff_iff]; simp
      · rw [if_neg h5, if_neg h5]
        by_cases h6 : r = 6
        · rw [if_pos h6, if_pos h6]; rw [Bool.eq_iff_iff]; simp; omega
        · rw [if_neg h6, if_neg h6]; rw [Bool.eq_iff_iff]; simp; omega
end Go.Proofs.YtmbopkcmbiommaaGreatDoor
