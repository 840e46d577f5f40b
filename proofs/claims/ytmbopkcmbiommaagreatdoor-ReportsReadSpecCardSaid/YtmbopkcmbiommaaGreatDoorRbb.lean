/- strings.IndexByte, CutSuffix and Split by the kit's contracts: the laying by hand. -/
import Derived.Test.YtmbopkcmbiommaaGreatDoorRows
import Derived.Shelf.Small.Strs
import Derived.Shelf.Small.Wraps
import Derived.Shelf.Strings.Split
import Derived.Test.YtmbopkcmbiommaaGreatDoorRba
set_option maxRecDepth 1000000
set_option maxHeartbeats 16000000
namespace Go.Proofs.YtmbopkcmbiommaaGreatDoor
open Go Go.RowKit
def strR : Go.Shelf.Ren where
  f := fun k => if k = 104 then 53 else if k = 137 then 86 else if k = 138 then 75 else if k = 143 then 76 else if k = 146 then 54 else if k = 195 then 120 else if k = 197 then 121 else if k = 207 then 131 else if k = 211 then 87 else if k = 217 then 130 else if k = 218 then 122 else if k = 219 then 123 else if k = 221 then 39 else if k = 224 then 143 else if k = 225 then 142 else if k = 260 then 141 else if k = 266 then 146 else if k = 267 then 144 else if k = 268 then 74 else 152
  t := fun k => if k = 0 then 0 else if k = 3 then 3 else if k = 4 then 4 else if k = 5 then 5 else if k = 9 then 9 else if k = 21 then 21 else if k = 24 then 124 else if k = 31 then 48 else if k = 46 then 156 else if k = 51 then 198 else if k = 105 then 181 else if k = 119 then 194 else if k = 138 then 196 else if k = 139 then 197 else 199
  g := fun k => if k = 1 then 0 else if k = 3 then 1 else 2
theorem strL137 : Lays.n137 Tryz.prog strR where
  mixed := by kernel_rfl
  f137 := by kernel_rfl
  f217 := by kernel_rfl
  f266 := by kernel_rfl
  t3 := by kernel_rfl
  a3 := by intro w; kernel_rfl
  z3 := by intro w; kernel_rfl
  v3 := by intro w; kernel_rfl
  t5 := by kernel_rfl
  a5 := by intro w; kernel_rfl
  z5 := by intro w; kernel_rfl
  v5 := by intro w; kernel_rfl
  t9 := by kernel_rfl
  a9 := by intro w; kernel_rfl
  z9 := by intro w; kernel_rfl
  v9 := by intro w; kernel_rfl
theorem strL104 : Lays.n104 Tryz.prog strR where
  mixed := by kernel_rfl
  f104 := by kernel_rfl
  f207 := by kernel_rfl
  f211 := by kernel_rfl
  t3 := by kernel_rfl
  a3 := by intro w; kernel_rfl
  z3 := by intro w; kernel_rfl
  v3 := by intro w; kernel_rfl
  t4 := by kernel_rfl
  a4 := by intro w; kernel_rfl
  z4 := by intro w; kernel_rfl
  v4 := by intro w; kernel_rfl
  t9 := by kernel_rfl
  a9 := by intro w; kernel_rfl
  z9 := by intro w; kernel_rfl
  v9 := by intro w; kernel_rfl
  t24 := by kernel_rfl
  a24 := by intro w; kernel_rfl
  z24 := by intro w; kernel_rfl
  v24 := by intro w; kernel_rfl
theorem strL146 : Lays.n146 Tryz.prog strR where
  mixed := by kernel_rfl
  f138 := by kernel_rfl
  f143 := by kernel_rfl
  f146 := by kernel_rfl
  f195 := by kernel_rfl
  f197 := by kernel_rfl
  f217 := by kernel_rfl
  f218 := by kernel_rfl
  f219 := by kernel_rfl
  f221 := by kernel_rfl
  f224 := by kernel_rfl
  f225 := by kernel_rfl
  f260 := by kernel_rfl
  f266 := by kernel_rfl
  f267 := by kernel_rfl
  f268 := by kernel_rfl
  f314 := by kernel_rfl
  t0 := by kernel_rfl
  a0 := by intro w; kernel_rfl
  z0 := by intro w; kernel_rfl
  v0 := by intro w; kernel_rfl
  t3 := by kernel_rfl
  a3 := by intro w; kernel_rfl
  z3 := by intro w; kernel_rfl
  v3 := by intro w; kernel_rfl
  t4 := by kernel_rfl
  a4 := by intro w; kernel_rfl
  z4 := by intro w; kernel_rfl
  v4 := by intro w; kernel_rfl
  t5 := by kernel_rfl
  a5 := by intro w; kernel_rfl
  z5 := by intro w; kernel_rfl
  v5 := by intro w; kernel_rfl
  t9 := by kernel_rfl
  a9 := by intro w; kernel_rfl
  z9 := by intro w; kernel_rfl
  v9 := by intro w; kernel_rfl
  t21 := by kernel_rfl
  a21 := by intro w; kernel_rfl
  z21 := by intro w; kernel_rfl
  v21 := by intro w; kernel_rfl
  t31 := by kernel_rfl
  a31 := by intro w; kernel_rfl
  z31 := by intro w; kernel_rfl
  v31 := by intro w; kernel_rfl
  t46 := by kernel_rfl
  a46 := by intro w; kernel_rfl
  z46 := by intro w; kernel_rfl
  v46 := by intro w; kernel_rfl
  t51 := by kernel_rfl
  a51 := by intro w; kernel_rfl
  z51 := by intro w; kernel_rfl
  v51 := by intro w; kernel_rfl
  t105 := by kernel_rfl
  a105 := by intro w; kernel_rfl
  z105 := by intro w; kernel_rfl
  v105 := by intro w; kernel_rfl
  t119 := by kernel_rfl
  a119 := by intro w; kernel_rfl
  z119 := by intro w; kernel_rfl
  t138 := by kernel_rfl
  a138 := by intro w; kernel_rfl
  z138 := by intro w; kernel_rfl
  v138 := by intro w; kernel_rfl
  t139 := by kernel_rfl
  a139 := by intro w; kernel_rfl
  z139 := by intro w; kernel_rfl
  v139 := by intro w; kernel_rfl
  t146 := by kernel_rfl
  a146 := by intro w; kernel_rfl
  z146 := by intro w; kernel_rfl
  v146 := by intro w; kernel_rfl
  g1 := by kernel_rfl
  g3 := by kernel_rfl
  g4 := by kernel_rfl
def digitsB : By := [48, 49, 50, 51, 52, 53, 54, 55, 56, 57, 97, 98, 99, 100, 101, 102]
def hexI (c : UInt8) : Int := match hexV c with
  | some v => (v : Int)
  | none => -1
theorem hexI_all : (List.range 256).all (fun n => decide (Lib.indexByte digitsB (UInt8.ofNat n) = hexI (UInt8.ofNat n))) = true := by kernel_rfl
theorem hexI_eq (c : UInt8) : Lib.indexByte digitsB c = hexI c := by
  have h := List.all_eq_true.1 hexI_all c.toNat (List.mem_range.2 c.toNat_lt)
  have e : UInt8.ofNat c.toNat = c := by simp
  rw [e] at h
  exact of_decide_eq_true h
theorem hexV_lt {c : UInt8} {v : Nat} (h : hexV c = some v) : v < 16 := by
  unfold hexV at h
  split at h
  · injection h; omega
  · split at h
    · injection h; omega
    · cases h
def pairV (s : By) (k : Nat) : Option Nat := match s[2 * k]?, s[2 * k + 1]? with
  | some a, some b => match hexV a, hexV b with
    | some x, some y => some (16 * x + y)
    | _, _ => none
  | _, _ => none
theorem pairV_succ (a b : UInt8) (r : By) (k : Nat) : pairV (a :: b :: r) (k + 1) = pairV r k := by
  unfold pairV
  rw [show 2 * (k + 1) = 2 * k + 1 + 1 by omega]
  simp only [List.getElem?_cons_succ]
theorem pairs_none : ∀ (s : By) (k : Nat), 2 * k + 1 < s.length → pairV s k = none → pairsO s = none
  | [], k, h, _ => by simp at h
  | [_], k, h, _ => by simp at h
  | a :: b :: r, 0, h, hv => by
    unfold pairV at hv
    simp only [Nat.mul_zero, Nat.zero_add, List.getElem?_cons_zero, List.getElem?_cons_succ] at hv
    unfold pairsO
    cases ha : hexV a with
    | none => rfl
    | some x =>
      cases hb : hexV b with
      | none => rfl
      | some y => rw [ha, hb] at hv; cases hv
  | a :: b :: r, k + 1, h, hv => by
    rw [pairV_succ] at hv
    have ih := pairs_none r k (by simp at h; omega) hv
    unfold pairsO
    rw [ih]
    cases hexV a <;> cases hexV b <;> rfl
theorem pairs_ok : ∀ (d : List Nat) (s : By), s.length = 2 * d.length → (∀ (k u : Nat), d[k]? = some u → pairV s k = some u) → pairsO s = some d
  | [], [], _, _ => rfl
  | [], _ :: _, h, _ => by simp at h
  | u :: d, [], h, _ => by simp at h
  | u :: d, [_], h, _ => by simp at h; omega
  | u :: d, a :: b :: r, h, hv => by
    have h0 := hv 0 u rfl
    have ih := pairs_ok d r (by simp at h; omega) (fun k u' hu => by
      have := hv (k + 1) u' (by simpa using hu)
      rwa [pairV_succ] at this)
    unfold pairV at h0
    simp only [Nat.mul_zero, Nat.zero_add, List.getElem?_cons_zero, List.getElem?_cons_succ] at h0
    unfold pairsO
    rw [ih]
    cases ha : hexV a with
    | none => rw [ha] at h0; cases h0
    | some x =>
      cases hb : hexV b with
      | none => rw [ha, hb] at h0; cases h0
      | some y => rw [ha, hb] at h0; injection h0 with h0; subst h0; rfl
theorem index_byte (s : ByteArray) (c : Int) (w : World) : Calls Tryz.prog 86 #[.string s, .int .u8 c] w (Same (.int .i64 (Lib.indexByte s.data.toList c.toNat.toUInt8)) w) :=
  (Any.strings_IndexByte strL137 s c w).mono (fun _ _ h => ⟨h.1, h.2.symm⟩)
theorem world_cases (x : Wld) (l : List ByteArray) (ox : Option Wld) (hox : Hid (readR x 1 (bys l) = ox)) : (((l.length : Int) == 4) = false ∧ Hid (ox = none)) ∨ ∃ s0 s1 s2 s3, l = [s0, s1, s2, s3] ∧
    ((((s3.size : Int) == 64) = false ∧ Hid (ox = none)) ∨ (((s3.size : Int) == 64) = true ∧ ((numsV (bys [s0, s1, s2]) 3 = none ∧ Hid (ox = none)) ∨ ∃ a b c, numsV (bys [s0, s1, s2]) 3 = some [a, b, c] ∧ Hid (ox = (pairsO s3.data.toList).map (fun d => { x with people := a, covers := b, offs := c, seed := d }))))) := by
  have hx := hox.out
  clear hox
  by_cases h4 : l.length = 4
  · right
    match l, h4 with
    | [s0, s1, s2, s3], _ =>
      refine ⟨s0, s1, s2, s3, rfl, ?_⟩
      have hr : readR x 1 (bys [s0, s1, s2, s3]) = (match numO s0.data.toList, numO s1.data.toList, numO s2.data.toList, seedO s3.data.toList with
        | some x1, some y, some z, some s => some { x with people := x1, covers := y, offs := z, seed := s }
        | _, _, _, _ => none) := rfl
      have hs : seedO s3.data.toList = if s3.size = 64 then pairsO s3.data.toList else none := by unfold seedO; rw [Array.length_toList]; rfl
      rw [hr, hs] at hx
      by_cases h64 : s3.size = 64
      · refine .inr ⟨beq_iff_eq.2 (by omega), ?_⟩
        rw [if_pos h64] at hx
        have e : numsV (bys [s0, s1, s2]) 3 = numsO [s0.data.toList, s1.data.toList, s2.data.toList] := if_neg (by simp [bys])
        rw [e]
        unfold numsO numsO numsO numsO
        cases h0 : numO s0.data.toList with
        | none => rw [h0] at hx; exact .inl ⟨rfl, Lib.hid hx.symm⟩
        | some a =>
          cases h1 : numO s1.data.toList with
          | none => rw [h0, h1] at hx; exact .inl ⟨rfl, Lib.hid hx.symm⟩
          | some b =>
            cases h2 : numO s2.data.toList with
            | none => rw [h0, h1, h2] at hx; exact .inl ⟨rfl, Lib.hid hx.symm⟩
            | some c =>
              rw [h0, h1, h2] at hx
              refine .inr ⟨a, b, c, rfl, Lib.hid (hx.symm.trans ?_)⟩
              cases pairsO s3.data.toList <;> rfl
      · refine .inl ⟨beq_eq_false_iff_ne.2 (by omega), Lib.hid (hx.symm.trans ?_)⟩
        rw [if_neg h64]
        cases numO s0.data.toList <;> cases numO s1.data.toList <;> cases numO s2.data.toList <;> rfl
  · left
    refine ⟨beq_eq_false_iff_ne.2 (by omega), Lib.hid (hx.symm.trans ?_)⟩
    match l, h4 with
    | [], _ => rfl
    | [_], _ => rfl
    | [_, _], _ => rfl
    | [_, _, _], _ => rfl
    | _ :: _ :: _ :: _ :: _ :: _, _ => rfl
end Go.Proofs.YtmbopkcmbiommaaGreatDoor
