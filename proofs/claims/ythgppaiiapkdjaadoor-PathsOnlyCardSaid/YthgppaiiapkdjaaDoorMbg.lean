/-
  The laws of paths in plain words: what comes later, what others do.
-/
import Derived.Test.YthgppaiiapkdjaaDoorMbf
import Derived.Test.YthgppaiiapkdjaaDoorMaz
namespace Go.Proofs.YthgppaiiapkdjaaDoor
open Go.RowKit

/-- Cases that look alike up to a leg. -/
theorem way_same {c d : Cs} : ∀ (f i k : Nat), (∀ j, i ≤ j → j < i + f → (d.jobAt j).emptyB = (c.jobAt j).emptyB ∧ ∀ k, d.whyAt j k = c.whyAt j k ∧ d.stepAt j = c.stepAt j) → d.way f i k = c.way f i k
  | 0, _, _, _ => rfl
  | f + 1, i, k, h => by
    have h0 := h i (Nat.le_refl i) (by omega)
    have ih : ∀ k', d.way f (i + 1) k' = c.way f (i + 1) k' := fun k' => way_same f (i + 1) k' (fun j h1 h2 => h j (by omega) (by omega))
    show (if (d.jobAt i).emptyB = true then d.way f (i + 1) k else if d.whyAt i k = 0 then d.way f (i + 1) (d.stepAt i).right.at_.toNat else ((i : Int), d.whyAt i k)) = (if (c.jobAt i).emptyB = true then c.way f (i + 1) k else if c.whyAt i k = 0 then c.way f (i + 1) (c.stepAt i).right.at_.toNat else ((i : Int), c.whyAt i k))
    rw [h0.1, (h0.2 k).1, (h0.2 k).2, ih, ih]
/-- The leg that is found lies on the way. -/
theorem way_leg {c : Cs} : ∀ (f i k : Nat), (c.way f i k).2 = 0 ∨ ∃ l : Nat, i ≤ l ∧ l < i + f ∧ (c.way f i k).1 = l
  | 0, _, _ => .inl rfl
  | f + 1, i, k => by
    have hu : c.way (f + 1) i k = (if (c.jobAt i).emptyB = true then c.way f (i + 1) k else if c.whyAt i k = 0 then c.way f (i + 1) (c.stepAt i).right.at_.toNat else ((i : Int), c.whyAt i k)) := rfl
    rw [hu]
    split
    · rcases way_leg (c := c) f (i + 1) k with h | ⟨l, h1, h2, h3⟩
      · exact .inl h
      · exact .inr ⟨l, by omega, by omega, h3⟩
    · split
      · rcases way_leg (c := c) f (i + 1) (c.stepAt i).right.at_.toNat with h | ⟨l, h1, h2, h3⟩
        · exact .inl h
        · exact .inr ⟨l, by omega, by omega, h3⟩
      · exact .inr ⟨i, Nat.le_refl i, by omega, rfl⟩
/-- What lies behind the leg that is found does not matter. -/
theorem way_later {c d : Cs} (l : Nat) (h : ∀ j, j ≤ l → (d.jobAt j).emptyB = (c.jobAt j).emptyB ∧ ∀ k, d.whyAt j k = c.whyAt j k ∧ d.stepAt j = c.stepAt j) : ∀ (f i k : Nat), (c.way f i k).2 ≠ 0 → (c.way f i k).1 = l → d.way f i k = c.way f i k
  | 0, _, _, _, _ => rfl
  | f + 1, i, k, hw, hl => by
    have hil : i ≤ l := by
      rcases way_leg (c := c) (f + 1) i k with h | ⟨m, h1, h2, h3⟩
      · exact absurd h hw
      · rw [hl] at h3; omega
    have h0 := h i hil
    have hu : c.way (f + 1) i k = (if (c.jobAt i).emptyB = true then c.way f (i + 1) k else if c.whyAt i k = 0 then c.way f (i + 1) (c.stepAt i).right.at_.toNat else ((i : Int), c.whyAt i k)) := rfl
    have hd : d.way (f + 1) i k = (if (d.jobAt i).emptyB = true then d.way f (i + 1) k else if d.whyAt i k = 0 then d.way f (i + 1) (d.stepAt i).right.at_.toNat else ((i : Int), d.whyAt i k)) := rfl
    rw [hu] at hw hl ⊢
    rw [hd, h0.1, (h0.2 k).1, (h0.2 k).2]
    split at hw
    · rename_i he
      rw [if_pos he] at hl ⊢
      rw [if_pos he]
      exact way_later l h f (i + 1) k hw hl
    · rename_i he
      rw [if_neg he] at hl ⊢
      rw [if_neg he]
      split at hw
      · rename_i hy
        rw [if_pos hy] at hl ⊢
        rw [if_pos hy]
        exact way_later l h f (i + 1) _ hw hl
      · rename_i hy
        rw [if_neg hy, if_neg hy]

/-- Check has gone well. -/
theorem check_ok {c : Cs} (h : c.check.2.2 = 0) : c.formed = true ∧ c.valid = true ∧ c.bares = true := by
  unfold Cs.check at h
  split at h
  · rename_i h1
    split at h
    · rename_i h2
      split at h
      · rename_i h3
        exact ⟨h1, h2, h3⟩
      · exact absurd h (by show ¬ (550 : Int) = 0; omega)
    · exact absurd h (by show ¬ (550 : Int) = 0; omega)
  · exact absurd h (by show ¬ (550 : Int) = 0; omega)
theorem check_of {c : Cs} (h1 : c.formed = true) (h2 : c.valid = true) (h3 : c.bares = true) :
    c.check = if c.sealed = true then ((c.way c.keys.length 0 c.place.toNat).1, (c.way c.keys.length 0 c.place.toNat).2, 0) else (0, 1, 0) := by
  unfold Cs.check; rw [if_pos h1, if_pos h2, if_pos h3]

/-- With other jobs behind the leg that is found. -/
def Cs.with (c : Cs) (l : Nat) (j : Jb) : Cs := { c with jobs := c.jobs.mapIdx fun i x => if i ≤ l then x else j }
theorem with_job {c : Cs} {l : Nat} {j : Jb} {k : Nat} (h : k ≤ l) : (c.with l j).jobAt k = c.jobAt k := by
  unfold Cs.jobAt Cs.with
  rw [List.getD_eq_getElem?_getD, List.getD_eq_getElem?_getD, List.getElem?_mapIdx]
  cases c.jobs[k]? with
  | none => rfl
  | some x => show (if k ≤ l then x else j) = x; rw [if_pos h]
theorem with_late {c : Cs} {l : Nat} {j : Jb} {k : Nat} (h : l < k) (hk : k < c.jobs.length) : (c.with l j).jobAt k = j := by
  unfold Cs.jobAt Cs.with
  rw [List.getD_eq_getElem?_getD, List.getElem?_mapIdx, List.getElem?_eq_getElem hk]
  show (if k ≤ l then _ else j) = j
  rw [if_neg (by omega)]
theorem with_in {c : Cs} {l : Nat} {j : Jb} : ∀ {k : Nat}, k ≤ l + 1 → (c.with l j).inAt k = c.inAt k
  | 0, _ => rfl
  | k + 1, h => by
    show nextL ((c.with l j).jobAt k) = nextL (c.jobAt k)
    rw [with_job (by omega)]
theorem check_later {c : Cs} {l : Nat} {j : Jb} (hj : j.emptyB = false) (h : c.check.2.2 = 0) (hw : c.check.2.1 ≠ 0) (hl : c.check.1 = l) : (c.with l j).check = c.check := by
  obtain ⟨h1, h2, h3⟩ := check_ok h
  have hjn : c.jobs.length = c.keys.length := by
    unfold Cs.formed formedB at h1
    simp only [Bool.and_eq_true, decide_eq_true_eq] at h1
    exact h1.2.2.1
  have g1 : (c.with l j).formed = true := by
    have : (c.with l j).formed = c.formed := by unfold Cs.formed Cs.with; simp
    rw [this]; exact h1
  have g2 : (c.with l j).valid = true := h2
  have g3 : (c.with l j).bares = true := by
    unfold Cs.bares at h3 ⊢
    rw [List.all_eq_true] at h3 ⊢
    intro i hi
    have hi' : i < c.keys.length := List.mem_range.1 hi
    by_cases hil : i ≤ l
    · have := h3 i hi
      unfold Cs.bareAt at this ⊢
      rw [with_job hil, with_in (by omega)]
      exact this
    · unfold Cs.bareAt
      rw [with_late (by omega) (by omega), hj]; rfl
  have hsame : ∀ k, k ≤ l → ((c.with l j).jobAt k).emptyB = (c.jobAt k).emptyB ∧ ∀ p, (c.with l j).whyAt k p = c.whyAt k p ∧ (c.with l j).stepAt k = c.stepAt k := fun k hk => by
    refine ⟨by rw [with_job hk], fun p => ⟨?_, rfl⟩⟩
    unfold Cs.whyAt
    rw [with_job hk, with_in (by omega)]
    rfl
  rw [check_of g1 g2 g3]
  rw [check_of h1 h2 h3] at hw hl ⊢
  have hsd : (c.with l j).sealed = c.sealed := rfl
  rw [hsd]
  by_cases hs : c.sealed = true
  · rw [if_pos hs] at hw hl ⊢
    rw [if_pos hs]
    have := way_later (d := c.with l j) l hsame c.keys.length 0 c.place.toNat hw hl
    show (((c.with l j).way c.keys.length 0 c.place.toNat).1, ((c.with l j).way c.keys.length 0 c.place.toNat).2, (0 : Int)) = _
    rw [this]
  · rw [if_neg hs, if_neg hs]
theorem check_leg {c : Cs} (h : c.check.2.2 = 0) (hw : c.check.2.1 ≠ 0) : ∃ l : Nat, c.check.1 = l ∧ l < c.jobs.length := by
  obtain ⟨h1, h2, h3⟩ := check_ok h
  have hh := h1
  unfold Cs.formed formedB at hh
  simp only [Bool.and_eq_true, decide_eq_true_eq] at hh
  rw [check_of h1 h2 h3] at hw ⊢
  by_cases hs : c.sealed = true
  · rw [if_pos hs] at hw ⊢
    rcases way_leg (c := c) c.keys.length 0 c.place.toNat with h | ⟨l, _, h5, h6⟩
    · exact absurd h hw
    · exact ⟨l, h6, by have := hh.2.2.1; omega⟩
  · rw [if_neg hs]
    exact ⟨0, rfl, by have := hh.2.2.1; have := hh.1; omega⟩

/-- With another letter in another place. -/
def Cs.other (c : Cs) (i : Nat) (x : Ltr) : Cs := { c with first := c.first.set i x }
theorem check_other {c : Cs} {i : Nat} {x : Ltr} (hx : x.good = true) (hi : (i : Int) ≠ c.place) (he : (c.jobAt 0).emptyB = false) (h : c.check.2.2 = 0) : (c.other i x).check = c.check := by
  obtain ⟨h1, h2, h3⟩ := check_ok h
  have hh := h1
  unfold Cs.formed formedB at hh
  simp only [Bool.and_eq_true, decide_eq_true_eq] at hh
  obtain ⟨n2, n9, hjn, hst, hfl0, hfl, hgood, hp0, hp1⟩ := hh
  have g1 : (c.other i x).formed = true := by
    unfold Cs.formed formedB Cs.other
    simp only [Bool.and_eq_true, decide_eq_true_eq, List.length_set]
    refine ⟨n2, n9, hjn, hst, hfl0, hfl, ?_, hp0, hp1⟩
    rw [List.all_eq_true] at hgood ⊢
    intro y hy
    rcases List.mem_or_eq_of_mem_set hy with hy | rfl
    · exact hgood y hy
    · exact hx
  have g3 : (c.other i x).bares = true := by
    unfold Cs.bares at h3 ⊢
    rw [List.all_eq_true] at h3 ⊢
    intro k hk
    cases k with
    | zero =>
      unfold Cs.bareAt
      rw [show (c.other i x).jobAt 0 = c.jobAt 0 from rfl, he]; rfl
    | succ k => exact h3 (k + 1) hk
  have hg : ∀ k : Nat, k ≠ i → (c.other i x).first.getD k zeroL = c.first.getD k zeroL := fun k hk => by
    unfold Cs.other
    rw [List.getD_eq_getElem?_getD, List.getD_eq_getElem?_getD, List.getElem?_set_ne (fun e => hk e.symm)]
  have hpi : c.place.toNat ≠ i := by omega
  have hsd : (c.other i x).sealed = c.sealed := by
    unfold Cs.sealed
    have := hg c.place.toNat hpi
    show (_ && Ltr.eqB _ ((c.other i x).first.getD c.place.toNat zeroL)) = _
    rw [this]; rfl
  have hw0 : (c.other i x).whyAt 0 c.place.toNat = c.whyAt 0 c.place.toNat := by
    have hl : ((c.other i x).inAt 0).length = (c.inAt 0).length := by show (c.first.set i x).length = c.first.length; simp
    have hsb : strippedB (c.keyAt 0) ((c.other i x).inAt 0) (c.jobAt 0) c.place.toNat = strippedB (c.keyAt 0) (c.inAt 0) (c.jobAt 0) c.place.toNat := by
      unfold strippedB
      have := hg c.place.toNat hpi
      rw [hl, show ((c.other i x).inAt 0).getD c.place.toNat zeroL = (c.inAt 0).getD c.place.toNat zeroL from this]
    unfold Cs.whyAt
    rw [hl]
    show (if (c.stepAt 0).mid = -1 then (5 : Int) else if strippedB (c.keyAt 0) ((c.other i x).inAt 0) (c.jobAt 0) c.place.toNat = true then _ else 3) = _
    rw [hsb]; rfl
  have hway : (c.other i x).way c.keys.length 0 c.place.toNat = c.way c.keys.length 0 c.place.toNat := by
    obtain ⟨m, hm⟩ : ∃ m, c.keys.length = m + 1 := ⟨c.keys.length - 1, by omega⟩
    rw [hm]
    show (if (c.jobAt 0).emptyB = true then _ else if (c.other i x).whyAt 0 c.place.toNat = 0 then (c.other i x).way m 1 (c.stepAt 0).right.at_.toNat else (((0 : Nat) : Int), (c.other i x).whyAt 0 c.place.toNat)) = (if (c.jobAt 0).emptyB = true then _ else if c.whyAt 0 c.place.toNat = 0 then c.way m 1 (c.stepAt 0).right.at_.toNat else (((0 : Nat) : Int), c.whyAt 0 c.place.toNat))
    have hr : ∀ k, (c.other i x).way m 1 k = c.way m 1 k := fun k => way_same (c := c) (d := c.other i x) m 1 k (fun j h1 _ => by
      refine ⟨rfl, fun k => ⟨?_, rfl⟩⟩
      obtain ⟨j', rfl⟩ : ∃ j', j = j' + 1 := ⟨j - 1, by omega⟩
      rfl)
    simp only [he, hw0, hr, Bool.false_eq_true, if_false]
  rw [check_of g1 h2 g3, check_of h1 h2 h3, hsd]
  show (if c.sealed = true then (((c.other i x).way c.keys.length 0 c.place.toNat).1, ((c.other i x).way c.keys.length 0 c.place.toNat).2, (0 : Int)) else (0, 1, 0)) = _
  rw [hway]
end Go.Proofs.YthgppaiiapkdjaaDoor

/-
  Letters under a key that remains: sealed, stripped, sealed again, read. Plain algebra.
-/
namespace Go.Proofs.YthgppaiiapkdjaaDoor
open Go.RowKit

/-- A number that is no square: its opposite is one. -/
theorem neg_valid {n : Int} (h1 : 1 ≤ n) (h2 : n < 2147483579) (h : ¬ validB n = true) : validB (2147483579 - n) = true := by
  obtain ⟨m, rfl⟩ := Int.eq_ofNat_of_zero_le (show 0 ≤ n by omega)
  have hm0 : 0 < m := by omega
  have hm1 : m < Pn := by show m < 2147483579; omega
  have hne : powP m Qn ≠ 1 := fun e => h (vN_to ⟨hm0, hm1, e⟩)
  have hc := Pn_prime hm0 hm1
  have hp : ∀ a, 0 < a → a < 2 * Qn + 1 → Nat.Coprime (2 * Qn + 1) a := fun a h2 h3 => Pn_prime h2 h3
  have hg := gauss_pow (h := Qn) (a := m) (by decide) hp hc
  have hm : powP m Qn = 2147483578 := by
    unfold powP at hne ⊢
    rw [Pn_eq] at hne ⊢
    rw [hg] at hne ⊢
    split at hne
    · exact absurd rfl hne
    · rename_i hh; rw [if_neg hh]; rfl
  have hmo : powP 2147483578 Qn = 2147483578 := by rw [powP_fast (by decide)]; decide +kernel
  have e : (m * 2147483578) % Pn = Pn - m := by
    have : m * 2147483578 = (Pn - m) + Pn * (m - 1) := by
      show m * 2147483578 = (2147483579 - m) + 2147483579 * (m - 1)
      have : m < 2147483579 := hm1
      omega
    rw [this, Nat.add_mul_mod_self_left, Nat.mod_eq_of_lt (by omega)]
  have ht := powP_times m 2147483578 Qn
  rw [e, hm, hmo] at ht
  have hv : vN (Pn - m) := ⟨by omega, by omega, ht.trans (by decide)⟩
  have := vN_to hv
  have hcast : (((Pn - m : Nat)) : Int) = 2147483579 - (m : Int) := by
    have : m < 2147483579 := hm1
    show ((2147483579 - m : Nat) : Int) = _
    omega
  rw [hcast] at this
  exact this
theorem elem_ok {n : Int} (h : elemB n = true) : validB (elemV n) = true ∧ numV (elemV n) = n := by
  have hr : 1 ≤ n ∧ n ≤ 1073741789 := by
    unfold elemB elemE at h
    split at h
    · assumption
    · simp at h
  unfold elemV
  rw [if_pos hr]
  by_cases hv : validB n = true
  · rw [if_pos hv]
    refine ⟨hv, ?_⟩
    unfold numV
    rw [if_pos hv, if_pos (by omega)]
  · rw [if_neg hv]
    have hv' := neg_valid hr.1 (by omega) hv
    refine ⟨hv', ?_⟩
    unfold numV
    rw [if_pos hv', if_neg (by omega)]
    omega

/-- A letter of elements e, under what remains of the key. -/
def Enc (R : Int) (e : Fin 3 → Int) (x : Ltr) : Prop := ∃ r : Fin 3 → Int, ∀ k, x.aAt k = powV 4 (r k) ∧ x.bAt k = mp (e k) (powV R (r k))
def Wd.at_ (w : Wd) (k : Fin 3) : Int := match k with | 0 => w.x | 1 => w.y | 2 => w.z
def Wd.el (w : Wd) (k : Fin 3) : Int := elemV (w.at_ k)
def rAt (r0 r1 r2 : Int) (k : Fin 3) : Int := match k with | 0 => r0 | 1 => r1 | 2 => r2
theorem tl_mp (a b : Int) : timesL [a, b] = mp a b := timesL_two a b
theorem moreL_at (key r0 r1 r2 : Int) (x : Ltr) (k : Fin 3) : (moreL key r0 r1 r2 x).aAt k = mp (x.aAt k) (powV 4 (rAt r0 r1 r2 k)) ∧ (moreL key r0 r1 r2 x).bAt k = mp (x.bAt k) (powV key (rAt r0 r1 r2 k)) := by
  match k with
  | 0 => exact ⟨tl_mp _ _, tl_mp _ _⟩
  | 1 => exact ⟨tl_mp _ _, tl_mp _ _⟩
  | 2 => exact ⟨tl_mp _ _, tl_mp _ _⟩
theorem stripL_at (n : Int) (x : Ltr) (k : Fin 3) : (stripL n x).aAt k = x.aAt k ∧ (stripL n x).bAt k = mp (x.bAt k) (powV (x.aAt k) (-n)) := by
  match k with
  | 0 => exact ⟨rfl, tl_mp _ _⟩
  | 1 => exact ⟨rfl, tl_mp _ _⟩
  | 2 => exact ⟨rfl, tl_mp _ _⟩
theorem good_of_at {x : Ltr} (h : ∀ k, validB (x.aAt k) = true ∧ validB (x.bAt k) = true) : x.good = true :=
  Ltr.good_of _ (fun k => by rw [goodAt_eq, (h k).1, (h k).2]; rfl)
theorem strip_good {n : Int} {x : Ltr} (h : x.good = true) : (stripL n x).good = true := good_of_at (fun k => by
  obtain ⟨ha, hb⟩ := good_at h k
  rw [(stripL_at n x k).1, (stripL_at n x k).2]
  exact ⟨ha, mp_valid hb (valid_pow ha _)⟩)
theorem more_good {key r0 r1 r2 : Int} {x : Ltr} (hk : validB key = true) (h : x.good = true) : (moreL key r0 r1 r2 x).good = true := good_of_at (fun k => by
  obtain ⟨ha, hb⟩ := good_at h k
  rw [(moreL_at key r0 r1 r2 x k).1, (moreL_at key r0 r1 r2 x k).2]
  exact ⟨mp_valid ha (valid_pow valid_four _), mp_valid hb (valid_pow hk _)⟩)
theorem seal0_at (w : Wd) (k : Fin 3) : (seal0 w.x w.y w.z).aAt k = 1 ∧ (seal0 w.x w.y w.z).bAt k = w.el k := by
  match k with
  | 0 => exact ⟨rfl, rfl⟩
  | 1 => exact ⟨rfl, rfl⟩
  | 2 => exact ⟨rfl, rfl⟩
def Wd.ok (w : Wd) : Prop := ∀ k, elemB (w.at_ k) = true
theorem sealB_ok {w : Wd} : sealB w.x w.y w.z = true ↔ w.ok := by
  unfold sealB Wd.ok
  simp only [Bool.and_eq_true]
  constructor
  · rintro ⟨⟨h0, h1⟩, h2⟩ k
    match k with
    | 0 => exact h0
    | 1 => exact h1
    | 2 => exact h2
  · intro h; exact ⟨⟨h 0, h 1⟩, h 2⟩
theorem seal_good {key r0 r1 r2 : Int} {w : Wd} (hk : validB key = true) (hw : w.ok) : (moreL key r0 r1 r2 (seal0 w.x w.y w.z)).good = true :=
  more_good hk (good_of_at (fun k => by rw [(seal0_at w k).1, (seal0_at w k).2]; exact ⟨valid_one, (elem_ok (hw k)).1⟩))
theorem enc_seal {key r0 r1 r2 : Int} (w : Wd) : Enc key w.el (moreL key r0 r1 r2 (seal0 w.x w.y w.z)) := ⟨rAt r0 r1 r2, fun k => by
  rw [(moreL_at key r0 r1 r2 _ k).1, (moreL_at key r0 r1 r2 _ k).2, (seal0_at w k).1, (seal0_at w k).2]
  exact ⟨mp_one (valid_pow valid_four _), rfl⟩⟩
theorem enc_more {key r0 r1 r2 : Int} {e : Fin 3 → Int} {x : Ltr} (hk : validB key = true) (h : Enc key e x) : Enc key e (moreL key r0 r1 r2 x) := by
  obtain ⟨r, hr⟩ := h
  refine ⟨fun k => r k + rAt r0 r1 r2 k, fun k => ?_⟩
  rw [(moreL_at key r0 r1 r2 x k).1, (moreL_at key r0 r1 r2 x k).2, (hr k).1, (hr k).2, pow_add' valid_four, pow_add' hk]
  exact ⟨rfl, by ac_rfl⟩
theorem enc_strip {s R : Int} {e : Fin 3 → Int} {x : Ltr} (hR : validB R = true) (he : ∀ k, validB (e k) = true) (h : Enc (mp (powV 4 s) R) e x) : Enc R e (stripL s x) := by
  obtain ⟨r, hr⟩ := h
  refine ⟨r, fun k => ?_⟩
  rw [(stripL_at s x k).1, (stripL_at s x k).2, (hr k).1, (hr k).2, pow_mp (valid_pow valid_four s) hR, powV_mul valid_four, powV_mul valid_four]
  refine ⟨rfl, ?_⟩
  have e1 : r k * -s = -(s * r k) := by rw [Int.mul_neg, Int.mul_comm]
  rw [e1]
  have h1 := pow_inv valid_four (s * r k)
  have : mp (mp (e k) (mp (powV 4 (s * r k)) (powV R (r k)))) (powV 4 (-(s * r k))) = mp (mp (powV 4 (s * r k)) (powV 4 (-(s * r k)))) (mp (e k) (powV R (r k))) := by ac_rfl
  rw [this, h1, mp_one (mp_valid (he k) (valid_pow hR _))]
theorem enc_read {w : Wd} {x : Ltr} (hw : w.ok) (hx : x.good = true) (h : Enc 1 w.el x) : readV x = w := by
  obtain ⟨r, hr⟩ := h
  have hb : ∀ k, x.bAt k = w.el k := fun k => by
    rw [(hr k).2]
    have : powV 1 (r k) = 1 := by
      unfold powV
      rw [if_pos valid_one]
      show ((powP 1 (expN (r k)) : Nat) : Int) = 1
      rw [one_powP]; rfl
    rw [this]
    exact mp_one' (elem_ok (hw k)).1
  have hn : ∀ k, numV (x.bAt k) = w.at_ k := fun k => by rw [hb k]; exact (elem_ok (hw k)).2
  unfold readV
  rw [if_pos hx]
  have h0 := hn 0
  have h1 := hn 1
  have h2 := hn 2
  cases w
  show (⟨numV x.b0, numV x.b1, numV x.b2⟩ : Wd) = _
  rw [show numV x.b0 = _ from h0, show numV x.b1 = _ from h1, show numV x.b2 = _ from h2]
  rfl
/-- Different words, different letters. -/
theorem seal_inj {key r0 r1 r2 : Int} {w v : Wd} (hk : validB key = true) (hw : w.ok) (hv : v.ok) (h : moreL key r0 r1 r2 (seal0 w.x w.y w.z) = moreL key r0 r1 r2 (seal0 v.x v.y v.z)) : w = v := by
  have hb : ∀ k, w.at_ k = v.at_ k := fun k => by
    have h1 := (moreL_at key r0 r1 r2 (seal0 w.x w.y w.z) k).2
    have h2 := (moreL_at key r0 r1 r2 (seal0 v.x v.y v.z) k).2
    rw [h, h2, (seal0_at w k).2, (seal0_at v k).2] at h1
    have := cancel_mul (valid_pow hk _) (elem_ok (hv k)).1 (elem_ok (hw k)).1 h1
    rw [← (elem_ok (hw k)).2, ← (elem_ok (hv k)).2]
    exact congrArg numV this.symm
  have h0 := hb 0
  have h1 := hb 1
  have h2 := hb 2
  cases w; cases v
  simp only [Wd.at_] at h0 h1 h2
  subst h0; subst h1; subst h2; rfl
/-- Another number, another letter. -/
theorem seal_next {key r0 r1 r2 : Int} {w : Wd} : moreL key r0 (r1.tmod 1073741789 + 1) r2 (seal0 w.x w.y w.z) ≠ moreL key r0 r1 r2 (seal0 w.x w.y w.z) := fun h => by
  have h1 := (moreL_at key r0 (r1.tmod 1073741789 + 1) r2 (seal0 w.x w.y w.z) 1).1
  have h2 := (moreL_at key r0 r1 r2 (seal0 w.x w.y w.z) 1).1
  rw [h, h2, (seal0_at w 1).1, mp_one (valid_pow valid_four _), mp_one (valid_pow valid_four _)] at h1
  change powV 4 r1 = powV 4 (r1.tmod 1073741789 + 1) at h1
  have e : (r1.tmod 1073741789 + 1) % 1073741789 = (r1 + 1) % 1073741789 := by
    have := tmod_emod r1
    omega
  rw [powV_cong e, pow_add' valid_four, powV_one valid_four] at h1
  have h3 : mp 1 (powV 4 r1) = mp 4 (powV 4 r1) := by
    rw [mp_one (valid_pow valid_four _)]
    exact h1.trans (by ac_rfl)
  have := cancel_mul (valid_pow valid_four r1) valid_one valid_four h3
  omega
end Go.Proofs.YthgppaiiapkdjaaDoor
