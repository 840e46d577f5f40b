/-
  What equal.Bare makes, is accepted: plain algebra.
-/
import Derived.Test.YthgppaiiapkdjaaGreatDoorMaw
import Derived.Test.YthgppaiiapkdjaaGreatDoorMbd
namespace Go.Proofs.YthgppaiiapkdjaaGreatDoor
open Go.RowKit

/-- Products of elements. -/
def mp (a b : Int) : Int := a * b % 2147483579
instance mp_comm : Std.Commutative mp := ⟨fun a b => by unfold mp; rw [Int.mul_comm]⟩
instance mp_assoc : Std.Associative mp := ⟨fun a b c => by
  unfold mp
  rw [Int.mul_emod (a * b % 2147483579), Int.emod_emod_of_dvd _ (Int.dvd_refl _), ← Int.mul_emod, Int.mul_emod a (b * c % 2147483579), Int.emod_emod_of_dvd _ (Int.dvd_refl _), ← Int.mul_emod, Int.mul_assoc]⟩
theorem mp_valid {a b : Int} (ha : validB a = true) (hb : validB b = true) : validB (mp a b) = true := valid_mul ha hb
theorem mp_one {a : Int} (ha : validB a = true) : mp 1 a = a := by unfold mp; rw [Int.one_mul, modP ha]
theorem mp_one' {a : Int} (ha : validB a = true) : mp a 1 = a := by unfold mp; rw [Int.mul_one, modP ha]
theorem pow_add' {a : Int} (h : validB a = true) (m n : Int) : powV a (m + n) = mp (powV a m) (powV a n) := powV_add h m n
theorem pow_inv {a : Int} (h : validB a = true) (n : Int) : mp (powV a n) (powV a (-n)) = 1 := by
  rw [← pow_add' h, show n + -n = 0 by omega, powV_zero h]
theorem mulL_mp {a b : Int} (ha : validB a = true) (hb : validB b = true) : mulL [a, b] = mp a b := mulL_two ha hb
theorem pow_neg_neg {a : Int} (h : validB a = true) : powV (powV a (-1)) (-1) = a := by
  rw [powV_mul h, show (-1 : Int) * -1 = 1 by omega, powV_one h]
theorem pow_mp {a b : Int} (ha : validB a = true) (hb : validB b = true) (n : Int) : powV (mp a b) n = mp (powV a n) (powV b n) := powV_times ha hb n
/-- What an answer comes to. -/
theorem answer_back {g : Int} (h : validB g = true) (n E s : Int) : mulL [powV g ((n + E * s) % 1073741789), powV (powV g s) (-E)] = powV g n := by
  rw [mulL_mp (valid_pow h _) (valid_pow (valid_pow h _) _), powV_cong (m := (n + E * s) % 1073741789) (n := n + E * s) (Int.emod_emod_of_dvd _ (Int.dvd_refl _)), pow_add' h, powV_mul h]
  have e : s * -E = -(E * s) := by rw [Int.mul_neg, Int.mul_comm]
  rw [e]
  have h1 := pow_inv h (E * s)
  have : mp (mp (powV g n) (powV g (E * s))) (powV g (-(E * s))) = mp (powV g n) (mp (powV g (E * s)) (powV g (-(E * s)))) := by ac_rfl
  rw [this, h1, mp_one' (valid_pow h _)]
/-- A key that is taken off, shows what it was. -/
theorem off_back {b A : Int} (hb : validB b = true) (hA : validB A = true) : mulL [b, powV (mulL [b, powV A (-1)]) (-1)] = A := by
  have h1 := valid_pow hA (-1)
  have h2 := valid_pow hb (-1)
  rw [mulL_mp hb h1, mulL_mp hb (valid_pow (mp_valid hb h1) _), pow_mp hb h1, pow_neg_neg hA]
  have : mp b (mp (powV b (-1)) A) = mp (mp b (powV b (-1))) A := by ac_rfl
  have h3 : mp b (powV b (-1)) = 1 := powV_inv hb
  rw [this, h3, mp_one hA]
theorem ordB_ok {n : Int} (h : 0 ≤ n ∧ n < 1073741789) : ordB n = true := decide_eq_true h
theorem pubV_eq {s : Int} (h : secB s = true) : pubV s = powV 4 s := if_pos h
theorem bareAt_ok {s : Int} (hs : secB s = true) {x y p : Ltr} (k : Fin 3) (ha : validB (x.aAt k) = true) (hb : validB (x.bAt k) = true)
    (hy : y.aAt k = (bareF s (x.aAt k) (x.bAt k)).1 ∧ y.bAt k = (bareF s (x.aAt k) (x.bAt k)).2) (hp : p.aAt k = (prfF s (x.aAt k) (x.bAt k)).1 ∧ p.bAt k = (prfF s (x.aAt k) (x.bAt k)).2) : bareAt (pubV s) x y p k = true := by
  have hA := valid_pow ha s
  have hD := off_back hb hA
  unfold bareAt
  rw [hy.1, hy.2, hp.1, hp.2]
  unfold bareF prfF
  dsimp only
  rw [hD, pubV_eq hs]
  simp only [decide_true, Bool.true_and]
  have e1 : chk1 (powV 4 s) (x.aAt k) (powV (x.aAt k) s) = true := by unfold chk1; rw [valid_pow valid_four, ha, hA]; rfl
  have e2 : chk2 (provE s (x.aAt k)) (provS s (x.aAt k)) = true := by
    unfold chk2
    rw [ordB_ok (provE_rng s _), ordB_ok (by unfold provS; exact ⟨Int.emod_nonneg _ (by omega), Int.emod_lt_of_pos _ (by omega)⟩)]; rfl
  have e3 : chk3 (powV 4 s) (x.aAt k) (powV (x.aAt k) s) (provE s (x.aAt k)) (provS s (x.aAt k)) = true := by
    unfold chk3
    refine decide_eq_true ?_
    unfold provS
    show provE s (x.aAt k) = (chalV (powV 4 s) (x.aAt k) (powV (x.aAt k) s) (mulL [powV 4 _, powV (powV 4 s) (-provE s (x.aAt k))]) (mulL [powV (x.aAt k) _, powV (powV (x.aAt k) s) (-provE s (x.aAt k))]) : Nat)
    rw [answer_back valid_four, answer_back ha]
    rfl
  unfold checkB
  rw [e1, e2, e3]; rfl
theorem goodAt_eq (x : Ltr) (k : Fin 3) : x.goodAt k = (validB (x.aAt k) && validB (x.bAt k)) := by
  match k with
  | 0 => rfl
  | 1 => rfl
  | 2 => rfl
theorem bareX_good {s : Int} {x : Ltr} (h : x.good = true) : (x.by (bareF s)).good = true := by
  refine Ltr.good_of _ (fun k => ?_)
  obtain ⟨ha, hb⟩ := good_at h k
  obtain ⟨e1, e2⟩ := Ltr.by_at (bareF s) x k
  rw [goodAt_eq, e1, e2]
  have hA := valid_pow ha s
  unfold bareF
  dsimp only
  rw [mulL_mp hb (valid_pow hA _), ha, mp_valid hb (valid_pow hA _)]; rfl
theorem chkL_ok {l : List Ltr} : chkL l = 0 ↔ l.length ≤ 64 ∧ l.all Ltr.good = true := by
  unfold chkL
  constructor
  · intro h
    split at h
    · exact absurd h (by omega)
    · split at h
      · rename_i h1 h2; exact ⟨by omega, h2⟩
      · exact absurd h (by omega)
  · rintro ⟨h1, h2⟩
    rw [if_neg (by omega), if_pos h2]
theorem chkL_bareX {s : Int} {l : List Ltr} (h : chkL l = 0) : chkL (bareX s l) = 0 := by
  obtain ⟨h1, h2⟩ := chkL_ok.1 h
  refine chkL_ok.2 ⟨by unfold bareX; rw [List.length_map]; exact h1, ?_⟩
  rw [List.all_eq_true] at h2 ⊢
  intro y hy
  unfold bareX at hy
  obtain ⟨x, hx, rfl⟩ := List.mem_map.1 hy
  exact bareX_good (h2 x hx)
theorem pub_valid {s : Int} (h : secB s = true) : validB (pubV s) = true := by rw [pubV_eq h]; exact valid_pow valid_four s
/-- What equal.Bare makes, is accepted. -/
theorem bare_ok {s : Int} (hs : secB s = true) {l : List Ltr} (hl : chkL l = 0) : checkBareB (pubV s) l (bareX s l) (bareP s l) = true := by
  obtain ⟨h1, h2⟩ := chkL_ok.1 hl
  rw [List.all_eq_true] at h2
  unfold checkBareB
  rw [pub_valid hs, decide_eq_true (show l.length = (bareX s l).length by unfold bareX; simp), decide_eq_true (show l.length = (bareP s l).length by unfold bareP; simp), decide_eq_true hl, decide_eq_true (chkL_bareX hl)]
  simp only [Bool.true_and]
  refine bareAll_ok (by unfold bareX; simp) (by unfold bareP; simp) (fun z => ?_)
  obtain ⟨ha, hb⟩ := good_at (h2 z.ltr (List.getElem_mem z.hi)) z.k
  have gx : (bareX s l).getD z.i zeroL = z.ltr.by (bareF s) := by
    unfold bareX
    rw [List.getD_eq_getElem?_getD, List.getElem?_map, List.getElem?_eq_getElem z.hi]; rfl
  have gp : (bareP s l).getD z.i zeroL = z.ltr.by (prfF s) := by
    unfold bareP
    rw [List.getD_eq_getElem?_getD, List.getElem?_map, List.getElem?_eq_getElem z.hi]; rfl
  unfold bareZ
  rw [gx, gp]
  exact bareAt_ok hs z.k ha hb (Ltr.by_at _ _ _) (Ltr.by_at _ _ _)
end Go.Proofs.YthgppaiiapkdjaaGreatDoor

/-
  The laws of paths in plain words: what comes later, what others do.
-/
namespace Go.Proofs.YthgppaiiapkdjaaGreatDoor
open Go.RowKit

/-- Cases that look alike up to a leg. -/
theorem way_same {c d : Cs} : ∀ (f i k : Nat), (∀ j, i ≤ j → j < i + f → (d.jobAt j).emptyB = (c.jobAt j).emptyB ∧ ∀ k, d.whyAt j k = c.whyAt j k ∧ d.stepAt j = c.stepAt j) → d.way f i k = c.way f i k
  | 0, _, _, _ => rfl
  | f + 1, i, k, h => by
    have h0 := h i (Nat.le_refl i) (by omega)
    have ih : ∀ k', d.way f (i + 1) k' = c.way f (i + 1) k' := fun k' => way_same f (i + 1) k' (fun j h1 h2 => h j (by omega) (by omega))
    show (if (d.jobAt i).emptyB = true then d.way f (i + 1) k else if d.whyAt i k = 0 then d.way f (i + 1) (d.stepAt i).right.at_.toNat else ((i : Int), d.whyAt i k)) = (if (c.jobAt i).emptyB = true then c.way f (i + 1) k else if c.whyAt i k = 0 then c.way f (i + 1) (c.stepAt i).right.at_.toNat else ((i : Int), c.whyAt i k))
    rw [h0.1, (h0.2 k).1, (h0.2 k).2, ih, ih]
/-- The leg that is found lies on the way. -/
theorem way_leg {c : Cs} : ∀ (f i k : Nat), (c.way f i k).2 = 0 ∨ ∃ l : Nat, i ≤ l ∧ l < i + f ∧ (c.way f i k).1 = l
  | 0, _, _ => .inl rfl
  | f + 1, i, k => by
    have hu : c.way (f + 1) i k = (if (c.jobAt i).emptyB = true then c.way f (i + 1) k else if c.whyAt i k = 0 then c.way f (i + 1) (c.stepAt i).right.at_.toNat else ((i : Int), c.whyAt i k)) := rfl
    rw [hu]
    split
    · rcases way_leg (c := c) f (i + 1) k with h | ⟨l, h1, h2, h3⟩
      · exact .inl h
      · exact .inr ⟨l, by omega, by omega, h3⟩
    · split
      · rcases way_leg (c := c) f (i + 1) (c.stepAt i).right.at_.toNat with h | ⟨l, h1, h2, h3⟩
        · exact .inl h
        · exact .inr ⟨l, by omega, by omega, h3⟩
      · exact .inr ⟨i, Nat.le_refl i, by omega, rfl⟩
/-- What lies behind the leg that is found does not matter. -/
theorem way_later {c d : Cs} (l : Nat) (h : ∀ j, j ≤ l → (d.jobAt j).emptyB = (c.jobAt j).emptyB ∧ ∀ k, d.whyAt j k = c.whyAt j k ∧ d.stepAt j = c.stepAt j) : ∀ (f i k : Nat), (c.way f i k).2 ≠ 0 → (c.way f i k).1 = l → d.way f i k = c.way f i k
  | 0, _, _, _, _ => rfl
  | f + 1, i, k, hw, hl => by
    have hil : i ≤ l := by
      rcases way_leg (c := c) (f + 1) i k with h | ⟨m, h1, h2, h3⟩
      · exact absurd h hw
      · rw [hl] at h3; omega
    have h0 := h i hil
    have hu : c.way (f + 1) i k = (if (c.jobAt i).emptyB = true then c.way f (i + 1) k else if c.whyAt i k = 0 then c.way f (i + 1) (c.stepAt i).right.at_.toNat else ((i : Int), c.whyAt i k)) := rfl
    have hd : d.way (f + 1) i k = (if (d.jobAt i).emptyB = true then d.way f (i + 1) k else if d.whyAt i k = 0 then d.way f (i + 1) (d.stepAt i).right.at_.toNat else ((i : Int), d.whyAt i k)) := rfl
    rw [hu] at hw hl ⊢
    rw [hd, h0.1, (h0.2 k).1, (h0.2 k).2]
    split at hw
    · rename_i he
      rw [if_pos he] at hl ⊢
      rw [if_pos he]
      exact way_later l h f (i + 1) k hw hl
    · rename_i he
      rw [if_neg he] at hl ⊢
      rw [if_neg he]
      split at hw
      · rename_i hy
        rw [if_pos hy] at hl ⊢
        rw [if_pos hy]
        exact way_later l h f (i + 1) _ hw hl
      · rename_i hy
        rw [if_neg hy, if_neg hy]

/-- Check has gone well. -/
theorem check_ok {c : Cs} (h : c.check.2.2 = 0) : c.formed = true ∧ c.valid = true ∧ c.bares = true := by
  unfold Cs.check at h
  split at h
  · rename_i h1
    split at h
    · rename_i h2
      split at h
      · rename_i h3
        exact ⟨h1, h2, h3⟩
      · exact absurd h (by show ¬ (550 : Int) = 0; omega)
    · exact absurd h (by show ¬ (550 : Int) = 0; omega)
  · exact absurd h (by show ¬ (550 : Int) = 0; omega)
theorem check_of {c : Cs} (h1 : c.formed = true) (h2 : c.valid = true) (h3 : c.bares = true) :
    c.check = if c.sealed = true then ((c.way c.keys.length 0 c.place.toNat).1, (c.way c.keys.length 0 c.place.toNat).2, 0) else (0, 1, 0) := by
  unfold Cs.check; rw [if_pos h1, if_pos h2, if_pos h3]

/-- With other jobs behind the leg that is found. -/
def Cs.with (c : Cs) (l : Nat) (j : Jb) : Cs := { c with jobs := c.jobs.mapIdx fun i x => if i ≤ l then x else j }
theorem with_job {c : Cs} {l : Nat} {j : Jb} {k : Nat} (h : k ≤ l) : (c.with l j).jobAt k = c.jobAt k := by
  unfold Cs.jobAt Cs.with
  rw [List.getD_eq_getElem?_getD, List.getD_eq_getElem?_getD, List.getElem?_mapIdx]
  cases c.jobs[k]? with
  | none => rfl
  | some x => show (if k ≤ l then x else j) = x; rw [if_pos h]
theorem with_late {c : Cs} {l : Nat} {j : Jb} {k : Nat} (h : l < k) (hk : k < c.jobs.length) : (c.with l j).jobAt k = j := by
  unfold Cs.jobAt Cs.with
  rw [List.getD_eq_getElem?_getD, List.getElem?_mapIdx, List.getElem?_eq_getElem hk]
  show (if k ≤ l then _ else j) = j
  rw [if_neg (by omega)]
theorem with_in {c : Cs} {l : Nat} {j : Jb} : ∀ {k : Nat}, k ≤ l + 1 → (c.with l j).inAt k = c.inAt k
  | 0, _ => rfl
  | k + 1, h => by
    show nextL ((c.with l j).jobAt k) = nextL (c.jobAt k)
    rw [with_job (by omega)]
theorem check_later {c : Cs} {l : Nat} {j : Jb} (hj : j.emptyB = false) (h : c.check.2.2 = 0) (hw : c.check.2.1 ≠ 0) (hl : c.check.1 = l) : (c.with l j).check = c.check := by
  obtain ⟨h1, h2, h3⟩ := check_ok h
  have hjn : c.jobs.length = c.keys.length := by
    unfold Cs.formed formedB at h1
    simp only [Bool.and_eq_true, decide_eq_true_eq] at h1
    exact h1.2.2.1
  have g1 : (c.with l j).formed = true := by
    have : (c.with l j).formed = c.formed := by unfold Cs.formed Cs.with; simp
    rw [this]; exact h1
  have g2 : (c.with l j).valid = true := h2
  have g3 : (c.with l j).bares = true := by
    unfold Cs.bares at h3 ⊢
    rw [List.all_eq_true] at h3 ⊢
    intro i hi
    have hi' : i < c.keys.length := List.mem_range.1 hi
    by_cases hil : i ≤ l
    · have := h3 i hi
      unfold Cs.bareAt at this ⊢
      rw [with_job hil, with_in (by omega)]
      exact this
    · unfold Cs.bareAt
      rw [with_late (by omega) (by omega), hj]; rfl
  have hsame : ∀ k, k ≤ l → ((c.with l j).jobAt k).emptyB = (c.jobAt k).emptyB ∧ ∀ p, (c.with l j).whyAt k p = c.whyAt k p ∧ (c.with l j).stepAt k = c.stepAt k := fun k hk => by
    refine ⟨by rw [with_job hk], fun p => ⟨?_, rfl⟩⟩
    unfold Cs.whyAt
    rw [with_job hk, with_in (by omega)]
    rfl
  rw [check_of g1 g2 g3]
  rw [check_of h1 h2 h3] at hw hl ⊢
  have hsd : (c.with l j).sealed = c.sealed := rfl
  rw [hsd]
  by_cases hs : c.sealed = true
  · rw [if_pos hs] at hw hl ⊢
    rw [if_pos hs]
    have := way_later (d := c.with l j) l hsame c.keys.length 0 c.place.toNat hw hl
    show (((c.with l j).way c.keys.length 0 c.place.toNat).1, ((c.with l j).way c.keys.length 0 c.place.toNat).2, (0 : Int)) = _
    rw [this]
  · rw [if_neg hs, if_neg hs]
theorem check_leg {c : Cs} (h : c.check.2.2 = 0) (hw : c.check.2.1 ≠ 0) : ∃ l : Nat, c.check.1 = l ∧ l < c.jobs.length := by
  obtain ⟨h1, h2, h3⟩ := check_ok h
  have hh := h1
  unfold Cs.formed formedB at hh
  simp only [Bool.and_eq_true, decide_eq_true_eq] at hh
  rw [check_of h1 h2 h3] at hw ⊢
  by_cases hs : c.sealed = true
  · rw [if_pos hs] at hw ⊢
    rcases way_leg (c := c) c.keys.length 0 c.place.toNat with h | ⟨l, _, h5, h6⟩
    · exact absurd h hw
    · exact ⟨l, h6, by have := hh.2.2.1; omega⟩
  · rw [if_neg hs]
    exact ⟨0, rfl, by have := hh.2.2.1; have := hh.1; omega⟩

/-- With another letter in another place. -/
def Cs.other (c : Cs) (i : Nat) (x : Ltr) : Cs := { c with first := c.first.set i x }
theorem check_other {c : Cs} {i : Nat} {x : Ltr} (hx : x.good = true) (hi : (i : Int) ≠ c.place) (he : (c.jobAt 0).emptyB = false) (h : c.check.2.2 = 0) : (c.other i x).check = c.check := by
  obtain ⟨h1, h2, h3⟩ := check_ok h
  have hh := h1
  unfold Cs.formed formedB at hh
  simp only [Bool.and_eq_true, decide_eq_true_eq] at hh
  obtain ⟨n2, n9, hjn, hst, hfl0, hfl, hgood, hp0, hp1⟩ := hh
  have g1 : (c.other i x).formed = true := by
    unfold Cs.formed formedB Cs.other
    simp only [Bool.and_eq_true, decide_eq_true_eq, List.length_set]
    refine ⟨n2, n9, hjn, hst, hfl0, hfl, ?_, hp0, hp1⟩
    rw [List.all_eq_true] at hgood ⊢
    intro y hy
    rcases List.mem_or_eq_of_mem_set hy with hy | rfl
    · exact hgood y hy
    · exact hx
  have g3 : (c.other i x).bares = true := by
    unfold Cs.bares at h3 ⊢
    rw [List.all_eq_true] at h3 ⊢
    intro k hk
    cases k with
    | zero =>
      unfold Cs.bareAt
      rw [show (c.other i x).jobAt 0 = c.jobAt 0 from rfl, he]; rfl
    | succ k => exact h3 (k + 1) hk
  have hg : ∀ k : Nat, k ≠ i → (c.other i x).first.getD k zeroL = c.first.getD k zeroL := fun k hk => by
    unfold Cs.other
    rw [List.getD_eq_getElem?_getD, List.getD_eq_getElem?_getD, List.getElem?_set_ne (fun e => hk e.symm)]
  have hpi : c.place.toNat ≠ i := by omega
  have hsd : (c.other i x).sealed = c.sealed := by
    unfold Cs.sealed
    have := hg c.place.toNat hpi
    show (_ && Ltr.eqB _ ((c.other i x).first.getD c.place.toNat zeroL)) = _
    rw [this]; rfl
  have hw0 : (c.other i x).whyAt 0 c.place.toNat = c.whyAt 0 c.place.toNat := by
    have hl : ((c.other i x).inAt 0).length = (c.inAt 0).length := by show (c.first.set i x).length = c.first.length; simp
    have hsb : strippedB (c.keyAt 0) ((c.other i x).inAt 0) (c.jobAt 0) c.place.toNat = strippedB (c.keyAt 0) (c.inAt 0) (c.jobAt 0) c.place.toNat := by
      unfold strippedB
      have := hg c.place.toNat hpi
      rw [hl, show ((c.other i x).inAt 0).getD c.place.toNat zeroL = (c.inAt 0).getD c.place.toNat zeroL from this]
    unfold Cs.whyAt
    rw [hl]
    show (if (c.stepAt 0).mid = -1 then (5 : Int) else if strippedB (c.keyAt 0) ((c.other i x).inAt 0) (c.jobAt 0) c.place.toNat = true then _ else 3) = _
    rw [hsb]; rfl
  have hway : (c.other i x).way c.keys.length 0 c.place.toNat = c.way c.keys.length 0 c.place.toNat := by
    obtain ⟨m, hm⟩ : ∃ m, c.keys.length = m + 1 := ⟨c.keys.length - 1, by omega⟩
    rw [hm]
    show (if (c.jobAt 0).emptyB = true then _ else if (c.other i x).whyAt 0 c.place.toNat = 0 then (c.other i x).way m 1 (c.stepAt 0).right.at_.toNat else (((0 : Nat) : Int), (c.other i x).whyAt 0 c.place.toNat)) = (if (c.jobAt 0).emptyB = true then _ else if c.whyAt 0 c.place.toNat = 0 then c.way m 1 (c.stepAt 0).right.at_.toNat else (((0 : Nat) : Int), c.whyAt 0 c.place.toNat))
    have hr : ∀ k, (c.other i x).way m 1 k = c.way m 1 k := fun k => way_same (c := c) (d := c.other i x) m 1 k (fun j h1 _ => by
      refine ⟨rfl, fun k => ⟨?_, rfl⟩⟩
      obtain ⟨j', rfl⟩ : ∃ j', j = j' + 1 := ⟨j - 1, by omega⟩
      rfl)
    simp only [he, hw0, hr, Bool.false_eq_true, if_false]
  rw [check_of g1 h2 g3, check_of h1 h2 h3, hsd]
  show (if c.sealed = true then (((c.other i x).way c.keys.length 0 c.place.toNat).1, ((c.other i x).way c.keys.length 0 c.place.toNat).2, (0 : Int)) else (0, 1, 0)) = _
  rw [hway]
end Go.Proofs.YthgppaiiapkdjaaGreatDoor
