/-
  The examples of the chapter, in plain words.
-/
import Derived.Test.YthgppaiiapkdjaaDoorMbh
namespace Go.Proofs.YthgppaiiapkdjaaDoor
open Go.RowKit

theorem pub3 : pubV 3 = 64 := by
  rw [pubV_eq (by decide)]
  unfold powV
  rw [if_pos valid_four]
  decide
theorem pub4 : pubV 4 = 256 := by
  rw [pubV_eq (by decide)]
  unfold powV
  rw [if_pos valid_four]
  decide
theorem pow43 : powV 4 3 = 64 := by unfold powV; rw [if_pos valid_four]; decide
theorem pow44 : powV 4 4 = 256 := by unfold powV; rw [if_pos valid_four]; decide
def wS : Wd := ⟨5, 6, 7⟩
theorem wS_ok : wS.ok := fun k => by
  match k with
  | 0 => exact (by decide : elemB 5 = true)
  | 1 => exact (by decide : elemB 6 = true)
  | 2 => exact (by decide : elemB 7 = true)
/-- The joint key of the example. -/
def jS : Int := (restL [64, 256]).getD 0 0
theorem keys_ok : ∀ k ∈ [(64 : Int), 256], validB k = true := by
  intro k hk
  simp only [List.mem_cons, List.not_mem_nil, or_false] at hk
  rcases hk with rfl | rfl
  · rw [← pub3]; exact pub_valid (by decide)
  · rw [← pub4]; exact pub_valid (by decide)
theorem jS_join : joinV [64, 256] = jS ∧ joinE [64, 256] = 0 := join_rest keys_ok
theorem rest_head_valid {l : List Int} (h : ∀ k ∈ l, validB k = true) : validB ((restL l).getD 0 0) = true := by
  rw [List.getD_eq_getElem?_getD, List.getElem?_eq_getElem (by rw [restL_length]; omega)]
  exact restL_valid h _ (List.getElem_mem _)
theorem jS_valid : validB jS = true := rest_head_valid keys_ok
theorem seal_is {w : Wd} (hw : w.ok) {key : Int} (hk : validB key = true) (r0 r1 r2 : Int) : sealV key w.x w.y w.z r0 r1 r2 = moreL key r0 r1 r2 (seal0 w.x w.y w.z) ∧ sealE key w.x w.y w.z = 0 := by
  have hb := sealB_ok.2 hw
  unfold sealV sealE
  rw [if_pos hk, if_pos hk, if_pos hb, if_pos hb]
  exact ⟨rfl, rfl⟩
theorem sealS (r0 r1 r2 : Int) : sealV jS 5 6 7 r0 r1 r2 = moreL jS r0 r1 r2 (seal0 5 6 7) ∧ sealE jS 5 6 7 = 0 := by
  have h := seal_is wS_ok jS_valid r0 r1 r2
  have hx : wS.x = 5 := rfl
  have hy : wS.y = 6 := rfl
  have hz : wS.z = 7 := rfl
  rw [hx, hy, hz] at h
  generalize jS = J at *
  exact h
/-- The letter of the example. -/
def lS : Ltr := moreL jS 1 2 3 (seal0 5 6 7)
theorem lS_good : lS.good = true := seal_good (w := wS) jS_valid wS_ok
theorem lS_chk : chkL [lS] = 0 := chk_one lS_good
theorem secs_ok : ∀ s ∈ [(3 : Int), 4], secB s = true := by
  intro s hs
  simp only [List.mem_cons, List.not_mem_nil, or_false] at hs
  rcases hs with rfl | rfl <;> decide
def cS (r2 : Int) : Cs := bareCase [3, 4] [lS] 0 wS 1 2 r2
theorem cS_rest (r2 : Int) : (cS r2).restAt 0 = jS := by
  unfold Cs.restAt cS bareCase jS
  simp only [List.map, pub3, pub4]
theorem cS_sealed (r2 : Int) : (cS r2).sealed = (moreL jS 1 2 r2 (seal0 5 6 7)).eqB lS := by
  have hx : (cS r2).words.x = 5 := rfl
  have hy : (cS r2).words.y = 6 := rfl
  have hz : (cS r2).words.z = 7 := rfl
  have h0 : (cS r2).r0 = 1 := rfl
  have h1 : (cS r2).r1 = 2 := rfl
  have h2 : (cS r2).r2 = r2 := rfl
  have hf : (cS r2).first.getD (cS r2).place.toNat zeroL = lS := rfl
  unfold Cs.sealed
  rw [cS_rest, hx, hy, hz, h0, h1, h2, hf, (sealS 1 2 r2).1, (sealS 1 2 r2).2]
  simp only [decide_true, Bool.true_and]
theorem cS_check (r2 : Int) : (cS r2).check = if (cS r2).sealed = true then (0, 0, 0) else (0, 1, 0) :=
  bareCase_check secs_ok (by decide) (by decide) (by decide) lS_chk (by decide) (by decide)
theorem cS_right : (cS 3).check = (0, 0, 0) := by
  have h : (moreL jS 1 2 3 (seal0 5 6 7)).eqB lS = true := Ltr.eqB_iff.2 (show _ = lS from rfl)
  rw [cS_check, cS_sealed, if_pos h]
theorem cS_other : (cS 4).check = (0, 1, 0) := by
  rw [cS_check, cS_sealed, if_neg]
  intro h
  have h1 := Ltr.eqB_iff.1 h
  have h2 := (moreL_at jS 1 2 4 (seal0 5 6 7) 2).1
  have h3 := (moreL_at jS 1 2 3 (seal0 5 6 7) 2).1
  rw [h1] at h2
  rw [show lS = moreL jS 1 2 3 (seal0 5 6 7) from rfl, h3, show (seal0 5 6 7).aAt 2 = 1 from rfl, mp_one (valid_pow valid_four _), mp_one (valid_pow valid_four _)] at h2
  change powV 4 3 = powV 4 4 at h2
  rw [pow43, pow44] at h2
  omega
/-- With another second job. -/
def dS (j : Jb) : Cs := { cS 3 with jobs := [bareJob 3 [lS], j] }
theorem dS_formed (j : Jb) : (dS j).formed = true := bareCase_formed (ss := [3, 4]) (first := [lS]) (place := 0) (w := wS) (r0 := 1) (r1 := 2) (r2 := 3) (by decide) (by decide) (by decide) lS_chk (by decide) (by decide)
theorem dS_valid (j : Jb) : (dS j).valid = true := bareCase_valid (ss := [3, 4]) (first := [lS]) (place := 0) (w := wS) (r0 := 1) (r1 := 2) (r2 := 3) secs_ok
theorem dS_bare0 (j : Jb) : (dS j).bareAt 0 = true := (bareCase_bare (ss := [3, 4]) (first := [lS]) (place := 0) (w := wS) (r0 := 1) (r1 := 2) (r2 := 3) (i := 0) secs_ok lS_chk (by decide)).1
theorem dS_silent {j : Jb} (hj : j.emptyB = false) : (dS j).check = (1, 5, 0) := by
  have h1 : (dS j).bareAt 1 = true := by
    unfold Cs.bareAt
    rw [show (dS j).jobAt 1 = j from rfl, hj]; rfl
  have hb : (dS j).bares = true := by
    unfold Cs.bares
    rw [List.all_eq_true]
    intro i hi
    have hi' : i < 2 := List.mem_range.1 hi
    obtain rfl | rfl : i = 0 ∨ i = 1 := by omega
    · exact dS_bare0 j
    · exact h1
  have hs : (dS j).sealed = true := by
    show (cS 3).sealed = true
    rw [cS_sealed]; exact Ltr.eqB_iff.2 rfl
  have hw : (dS j).way 2 0 0 = (1, 5) := by
    show (if ((dS j).jobAt 0).emptyB = true then (if ((dS j).jobAt 1).emptyB = true then _ else if (dS j).whyAt 1 0 = 0 then _ else (((1 : Nat) : Int), (dS j).whyAt 1 0)) else _) = _
    rw [if_pos (show ((dS j).jobAt 0).emptyB = true from rfl), show (dS j).jobAt 1 = j from rfl, if_neg (by rw [hj]; simp)]
    have h5 : (dS j).whyAt 1 0 = 5 := Cs.why5 rfl
    rw [h5, if_neg (by omega)]; rfl
  rw [check_of (dS_formed j) (dS_valid j) hb, if_pos hs]
  show (((dS j).way 2 0 0).1, ((dS j).way 2 0 0).2, (0 : Int)) = _
  rw [hw]
theorem dS_zero : (dS zeroJ).check = (0, 0, 550) := by
  have hb : (dS zeroJ).bares = false := by
    unfold Cs.bares
    refine List.all_eq_false.2 ⟨1, List.mem_range.2 (by decide), ?_⟩
    have : (dS zeroJ).bareAt 1 = false := by
      unfold Cs.bareAt
      rw [show (dS zeroJ).jobAt 1 = zeroJ from rfl]
      show (!true || checkBareB _ ((dS zeroJ).inAt 1) [] []) = false
      unfold checkBareB
      rw [decide_eq_false (p := ((dS zeroJ).inAt 1).length = ([] : List Ltr).length) (by show ¬ (bareX 3 [lS]).length = 0; unfold bareX; simp)]
      simp
    rw [this]; simp
  unfold Cs.check
  rw [if_pos (dS_formed _), if_pos (dS_valid _), if_neg (by rw [hb]; simp)]
def zeroC : Cs := ⟨[], [], [], 0, ⟨0, 0, 0⟩, 0, 0, 0, []⟩
theorem zeroC_check : zeroC.check = (0, 0, 550) := by
  unfold Cs.check
  rw [if_neg]
  decide
end Go.Proofs.YthgppaiiapkdjaaDoor
