/-
  The law 'only' in plain words: one leg after the other.
-/
import Derived.Test.YthgppaiiapkdjaaGreatDoorMbq
namespace Go.Proofs.YthgppaiiapkdjaaGreatDoor
open Go.RowKit

theorem restL_at : ∀ {l : List Int} {i : Nat}, i < l.length → (restL l).getD i 0 = mulV (l.getD i 0) ((restL l).getD (i + 1) 0)
  | [], _, h => by simp at h
  | k :: l, 0, _ => by
    obtain ⟨r, h1, h2⟩ := restL_head (l := l)
    show mulV k ((restL l).headD 1) = mulV k ((restL l).getD 0 0)
    rw [List.getD_eq_getElem?_getD, h1, ← h2]; rfl
  | k :: l, i + 1, h => restL_at (l := l) (i := i) (by simpa using h)
theorem restL_last : ∀ (l : List Int), (restL l).getD l.length 0 = 1
  | [] => rfl
  | _ :: l => restL_last l
theorem rest_valid {c : Cs} (h : c.valid = true) {i : Nat} (hi : i ≤ c.keys.length) : validB (c.restAt i) = true := by
  unfold Cs.restAt
  rw [List.getD_eq_getElem?_getD, List.getElem?_eq_getElem (by rw [restL_length]; omega)]
  exact restL_valid (fun k hk => List.all_eq_true.1 h k hk) _ (List.getElem_mem _)
theorem bareAll_at {key : Int} : ∀ {l m q : List Ltr} {k : Nat} {x y p : Ltr}, bareAll key l m q = true → l[k]? = some x → m[k]? = some y → q[k]? = some p → bareOne key x y p = true
  | X :: l, Y :: m, P :: q, 0, x, y, p, h, hx, hy, hp => by
    simp only [List.getElem?_cons_zero, Option.some.injEq] at hx hy hp
    subst hx; subst hy; subst hp
    unfold bareAll at h
    simp only [Bool.and_eq_true] at h
    exact h.1
  | X :: l, Y :: m, P :: q, k + 1, x, y, p, h, hx, hy, hp => by
    simp only [List.getElem?_cons_succ] at hx hy hp
    unfold bareAll at h
    simp only [Bool.and_eq_true] at h
    exact bareAll_at h.2 hx hy hp
  | [], _, _, k, _, _, _, _, hx, _, _ => by simp at hx
  | _ :: _, [], _, k, _, _, _, _, _, hy, _ => by simp at hy
  | _ :: _, _ :: _, [], k, _, _, _, _, _, _, hp => by simp at hp
theorem checkBare_len {key : Int} {l m q : List Ltr} (h : checkBareB key l m q = true) : validB key = true ∧ l.length = m.length ∧ l.length = q.length ∧ chkL l = 0 ∧ chkL m = 0 ∧ bareAll key l m q = true := by
  unfold checkBareB at h
  simp only [Bool.and_eq_true, decide_eq_true_eq] at h
  exact h
theorem chk_one {x : Ltr} (h : x.good = true) : chkL [x] = 0 := chkL_ok.2 ⟨by simp, by simp [h]⟩
/-- What is right for all letters, is right for one. -/
theorem checkBare_one {key : Int} {l m q : List Ltr} {k : Nat} {x y p : Ltr} (h : checkBareB key l m q = true) (hx : l[k]? = some x) (hy : m[k]? = some y) (hp : q[k]? = some p) : checkBareB key [x] [y] [p] = true := by
  obtain ⟨h1, h2, h3, h4, h5, h6⟩ := checkBare_len h
  have gx := List.all_eq_true.1 (chkL_ok.1 h4).2 x (List.mem_of_getElem? hx)
  have gy := List.all_eq_true.1 (chkL_ok.1 h5).2 y (List.mem_of_getElem? hy)
  have ho := bareAll_at h6 hx hy hp
  unfold checkBareB
  rw [h1, decide_eq_true (show [x].length = [y].length from rfl), decide_eq_true (show [x].length = [p].length from rfl), decide_eq_true (chk_one gx), decide_eq_true (chk_one gy)]
  unfold bareAll
  rw [ho]
  unfold bareAll
  rfl
theorem leads_ok {key : Int} {a b : Ltr} {r0 r1 r2 : Int} (h : leadsB key a b r0 r1 r2 = true) : validB key = true ∧ a.good = true ∧ b = moreL key r0 r1 r2 a := by
  unfold leadsB at h
  simp only [Bool.and_eq_true, decide_eq_true_eq] at h
  obtain ⟨h1, h2⟩ := h
  have h3 := Ltr.eqB_iff.1 h2
  unfold againE at h1
  split at h1
  · rename_i hk
    split at h1
    · rename_i ha
      refine ⟨hk, ha, ?_⟩
      rw [← h3]; unfold againV; rw [if_pos hk, if_pos ha]
    · omega
  · omega

/-- Where a letter is at a leg, and what it says under what remains of the key. -/
structure Cs.At (c : Cs) (e : Fin 3 → Int) (p0 i k : Nat) (x : Ltr) : Prop where
  way : (upto c.keys.length i).foldl c.go (some p0) = some k
  here : (c.inAt i)[k]? = some x
  good : x.good = true
  enc : Enc (c.restAt i) e x
theorem at_start {c : Cs} (hp0 : 0 ≤ c.place) (hp1 : c.place < c.first.length) (hs : c.sealed = true) : c.At c.words.el c.place.toNat 0 c.place.toNat (c.first.getD c.place.toNat zeroL) ∧ c.words.ok := by
  unfold Cs.sealed at hs
  simp only [Bool.and_eq_true, decide_eq_true_eq] at hs
  obtain ⟨h1, h2⟩ := hs
  have h3 := Ltr.eqB_iff.1 h2
  unfold sealE at h1
  split at h1
  · rename_i hk
    split at h1
    · rename_i hw
      have hw' := sealB_ok.1 hw
      unfold sealV at h3
      rw [if_pos hk, if_pos hw] at h3
      refine ⟨⟨by rw [upto_zero]; rfl, ?_, ?_, ?_⟩, hw'⟩
      · show c.first[c.place.toNat]? = _
        rw [List.getD_eq_getElem?_getD, List.getElem?_eq_getElem (by omega)]; rfl
      · rw [← h3]; exact seal_good hk hw'
      · rw [← h3]; exact enc_seal c.words
    · omega
  · omega
theorem strip_is {s : Int} {x : Ltr} (hs : secB s = true) (hx : x.good = true) : stripV s x = stripL s x ∧ stripE s x = 0 := by
  unfold stripV stripE
  rw [if_pos hs, if_pos hs, if_pos hx, if_pos hx]
  exact ⟨rfl, rfl⟩
/-- The office's job fits. -/
theorem at_fits {c : Cs} {e : Fin 3 → Int} {p0 i k : Nat} {x : Ltr} (h : c.At e p0 i k x) (hb : c.bareAt i = true) (hw : (c.jobAt i).emptyB = false → c.whyAt i k = 0) :
    k < (c.inAt i).length ∧ (c.jobAt i).bare.length = (c.inAt i).length ∧ (c.jobAt i).proofs.length = (c.inAt i).length ∧
      ∃ y p, (c.jobAt i).bare[k]? = some y ∧ (c.jobAt i).proofs[k]? = some p ∧ checkBareB (c.keyAt i) [x] [y] [p] = true := by
  have hk : k < (c.inAt i).length := (List.getElem?_eq_some_iff.1 h.here).1
  cases he : (c.jobAt i).emptyB
  · have hw0 := hw he
    unfold Cs.whyAt at hw0
    split at hw0
    · omega
    · split at hw0
      · rename_i hst
        unfold strippedB at hst
        simp only [Bool.and_eq_true, decide_eq_true_eq] at hst
        obtain ⟨_, h2, h3, h4⟩ := hst
        refine ⟨hk, h2, h3, _, _, List.getElem?_eq_getElem (by omega), List.getElem?_eq_getElem (by omega), ?_⟩
        rw [List.getD_eq_getElem?_getD, List.getD_eq_getElem?_getD, List.getD_eq_getElem?_getD, h.here, List.getElem?_eq_getElem (show k < (c.jobAt i).bare.length by omega), List.getElem?_eq_getElem (show k < (c.jobAt i).proofs.length by omega)] at h4
        exact h4
      · omega
  · unfold Cs.bareAt at hb
    rw [he] at hb
    simp only [Bool.not_true, Bool.false_or] at hb
    obtain ⟨_, h2, h3, _⟩ := checkBare_len hb
    have hy : (c.jobAt i).bare[k]? = some _ := List.getElem?_eq_getElem (by omega)
    have hp : (c.jobAt i).proofs[k]? = some _ := List.getElem?_eq_getElem (by omega)
    exact ⟨hk, h2.symm, h3.symm, _, _, hy, hp, checkBare_one hb h.here hy hp⟩
/-- Rightly stripped, the letter goes on. -/
theorem at_on {c : Cs} {e : Fin 3 → Int} (he : ∀ k, validB (e k) = true) {p0 i k : Nat} {x y : Ltr} {s : Int} (h : c.At e p0 i k x) (hi : i < c.keys.length) (hv : c.valid = true) (hs : secB s = true) (hkey : pubV s = c.keyAt i)
    (hy : (c.jobAt i).bare[k]? = some y) (hxy : stripL s x = y) (hw : (c.jobAt i).emptyB = false → c.whyAt i k = 0) :
    ((c.jobAt i).emptyB = true → c.At e p0 (i + 1) k y) ∧
    ((c.jobAt i).emptyB = false → i < c.steps.length ∧ 0 ≤ (c.stepAt i).right.at_ ∧ ∃ z, c.At e p0 (i + 1) (c.stepAt i).right.at_.toNat z) := by
  have hR := rest_valid hv (show i + 1 ≤ c.keys.length by omega)
  have hrest : c.restAt i = mp (powV 4 s) (c.restAt (i + 1)) := by
    unfold Cs.restAt at hR ⊢
    rw [restL_at hi]
    have hk : c.keys.getD i 0 = powV 4 s := by rw [← pubV_eq hs]; exact hkey.symm
    rw [hk, mulV_eq (valid_pow valid_four s) hR]; rfl
  have hgy : y.good = true := by rw [← hxy]; exact strip_good h.good
  have hEy : Enc (c.restAt (i + 1)) e y := by
    have := h.enc
    rw [hrest] at this
    rw [← hxy]
    exact enc_strip hR he this
  constructor
  · intro hem
    refine ⟨?_, ?_, hgy, hEy⟩
    · rw [← upto_succ hi]; exact c.go_bare h.way hem
    · show (nextL (c.jobAt i))[k]? = some y
      unfold nextL
      rw [if_pos hem]; exact hy
  · intro hem
    have hw0 := hw hem
    have hw1 := hw0
    unfold Cs.whyAt at hw0
    split at hw0
    · omega
    · rename_i hmid
      split at hw0
      · split at hw0
        · rename_i hop
          have hlt := opened_lt hop
          unfold openedB at hop
          simp only [Bool.and_eq_true, decide_eq_true_eq] at hop
          obtain ⟨hl, hb, _, _, m0, m1, _, _, _, l1, _, l2⟩ := hop
          unfold lensB at hl
          simp only [Bool.and_eq_true, decide_eq_true_eq] at hl
          have hk : k < (c.inAt i).length := (List.getElem?_eq_some_iff.1 h.here).1
          have e1 := Ltr.eqB_iff.1 hb
          obtain ⟨k1, g1, q1⟩ := leads_ok l1
          obtain ⟨k2, g2, q2⟩ := leads_ok l2
          have hmi : (c.jobAt i).mi.getD k zeroL = y := by rw [e1, List.getD_eq_getElem?_getD, hy]; rfl
          rw [hmi] at q1 g1
          have hE2 := enc_more (r0 := (c.stepAt i).left.r0) (r1 := (c.stepAt i).left.r1) (r2 := (c.stepAt i).left.r2) hR hEy
          rw [← q1] at hE2
          have hE3 := enc_more (r0 := (c.stepAt i).right.r0) (r1 := (c.stepAt i).right.r1) (r2 := (c.stepAt i).right.r2) hR hE2
          rw [← q2] at hE3
          have hst : i < c.steps.length := by
            rcases Nat.lt_or_ge i c.steps.length with hh | hh
            · exact hh
            · exact absurd (by unfold Cs.stepAt; rw [List.getD_eq_getElem?_getD, List.getElem?_eq_none hh]; rfl) hmid
          refine ⟨hst, hlt.1, _, ?_, ?_, ?_, hE3⟩
          · rw [← upto_succ hi]; exact c.go_on h.way hem hw1
          · show (nextL (c.jobAt i))[(c.stepAt i).right.at_.toNat]? = _
            unfold nextL
            rw [if_neg (by rw [hem]; simp), List.getD_eq_getElem?_getD, List.getElem?_eq_getElem (by have := hl.2.2.1; have := hlt.2; omega)]
            rfl
          · rw [q2]; exact more_good hR g2
        · omega
      · omega
theorem at_end {c : Cs} {w : Wd} (hw : w.ok) {p0 k : Nat} {x : Ltr} (h : c.At w.el p0 c.keys.length k x) : readV x = w := by
  refine enc_read hw h.good ?_
  have := h.enc
  unfold Cs.restAt at this
  rwa [restL_last] at this
/-- Where nothing is wrong, every office has done right. -/
theorem way_right {c : Cs} {p0 : Nat} (h : (c.way c.keys.length 0 p0).2 = 0) {i k : Nat} (hi : i < c.keys.length) (hk : (upto c.keys.length i).foldl c.go (some p0) = some k) (he : (c.jobAt i).emptyB = false) : c.whyAt i k = 0 := by
  rcases Int.decEq (c.whyAt i k) 0 with hn | hy
  · rw [c.way_found hi hk he hn] at h
    exact absurd h hn
  · exact hy
end Go.Proofs.YthgppaiiapkdjaaGreatDoor

/-
  Cases in which nobody works: plain.
-/
namespace Go.Proofs.YthgppaiiapkdjaaGreatDoor
open Go.RowKit

def bareJob (s : Int) (b : List Ltr) : Jb := ⟨bareX s b, bareP s b, [], [], [], [], []⟩
def bareJobs : List Int → List Ltr → List Jb
  | [], _ => []
  | s :: ss, b => bareJob s b :: bareJobs ss (bareX s b)
def bareLast : List Int → List Ltr → List Ltr
  | [], b => b
  | s :: ss, b => bareLast ss (bareX s b)
theorem bareJobs_length : ∀ (ss : List Int) (b : List Ltr), (bareJobs ss b).length = ss.length
  | [], _ => rfl
  | s :: ss, b => by show (bareJobs ss (bareX s b)).length + 1 = _; rw [bareJobs_length]; rfl
theorem bareJobs_at : ∀ {ss : List Int} {b : List Ltr} {i : Nat} {s : Int}, ss[i]? = some s → (bareJobs ss b)[i]? = some (bareJob s (bareLast (ss.take i) b))
  | [], _, _, _, h => by simp at h
  | t :: ss, b, 0, s, h => by
    simp only [List.getElem?_cons_zero, Option.some.injEq] at h
    subst h; rfl
  | t :: ss, b, i + 1, s, h => by
    simp only [List.getElem?_cons_succ] at h
    exact bareJobs_at (b := bareX t b) h
theorem bareLast_snoc : ∀ (ss : List Int) (b : List Ltr) (s : Int), bareLast (ss ++ [s]) b = bareX s (bareLast ss b)
  | [], _, _ => rfl
  | t :: ss, b, s => bareLast_snoc ss (bareX t b) s
theorem bareLast_chk : ∀ {ss : List Int} {b : List Ltr}, chkL b = 0 → chkL (bareLast ss b) = 0
  | [], _, h => h
  | _ :: ss, _, h => bareLast_chk (ss := ss) (chkL_bareX h)
theorem bareLast_length : ∀ (ss : List Int) (b : List Ltr), (bareLast ss b).length = b.length
  | [], _ => rfl
  | s :: ss, b => by show (bareLast ss (bareX s b)).length = _; rw [bareLast_length]; unfold bareX; simp
def bareCase (ss : List Int) (first : List Ltr) (place : Int) (w : Wd) (r0 r1 r2 : Int) : Cs := ⟨first, ss.map pubV, bareJobs ss first, place, w, r0, r1, r2, []⟩

section
variable {ss : List Int} {first : List Ltr} {place : Int} {w : Wd} {r0 r1 r2 : Int}
theorem bareCase_job {i : Nat} {s : Int} (h : ss[i]? = some s) : (bareCase ss first place w r0 r1 r2).jobAt i = bareJob s (bareLast (ss.take i) first) := by
  unfold Cs.jobAt bareCase
  rw [List.getD_eq_getElem?_getD, bareJobs_at h]; rfl
theorem bareCase_in : ∀ {i : Nat}, i ≤ ss.length → (bareCase ss first place w r0 r1 r2).inAt i = bareLast (ss.take i) first
  | 0, _ => by rw [List.take_zero]; rfl
  | i + 1, h => by
    have hs : ss[i]? = some ss[i] := List.getElem?_eq_getElem (by omega)
    show nextL ((bareCase ss first place w r0 r1 r2).jobAt i) = _
    rw [bareCase_job hs, List.take_succ_eq_append_getElem (by omega), bareLast_snoc]
    rfl
theorem bareCase_key {i : Nat} {s : Int} (h : ss[i]? = some s) : (bareCase ss first place w r0 r1 r2).keyAt i = pubV s := by
  unfold Cs.keyAt bareCase
  rw [List.getD_eq_getElem?_getD, List.getElem?_map, h]; rfl
theorem bareCase_valid (hs : ∀ s ∈ ss, secB s = true) : (bareCase ss first place w r0 r1 r2).valid = true := by
  unfold Cs.valid bareCase
  rw [List.all_eq_true]
  intro k hk
  obtain ⟨s, h1, rfl⟩ := List.mem_map.1 hk
  exact pub_valid (hs s h1)
theorem bareCase_formed (h2 : 2 ≤ ss.length) (h9 : ss.length ≤ 9) (h0 : first.length ≠ 0) (hc : chkL first = 0) (hp0 : 0 ≤ place) (hp1 : place < first.length) : (bareCase ss first place w r0 r1 r2).formed = true := by
  obtain ⟨c1, c2⟩ := chkL_ok.1 hc
  unfold Cs.formed formedB bareCase
  simp only [Bool.and_eq_true, decide_eq_true_eq, List.length_map, bareJobs_length]
  exact ⟨h2, h9, trivial, by simp, h0, c1, c2, hp0, hp1⟩
theorem bareCase_bare {i : Nat} (hs : ∀ s ∈ ss, secB s = true) (hc : chkL first = 0) (hi : i < ss.length) : (bareCase ss first place w r0 r1 r2).bareAt i = true ∧ ((bareCase ss first place w r0 r1 r2).jobAt i).emptyB = true := by
  have hg : ss[i]? = some ss[i] := List.getElem?_eq_getElem hi
  unfold Cs.bareAt
  rw [bareCase_job hg, bareCase_key hg, bareCase_in (by omega)]
  refine ⟨?_, rfl⟩
  show (!true || checkBareB _ _ _ _) = true
  rw [show (bareJob ss[i] (bareLast (ss.take i) first)).bare = bareX ss[i] (bareLast (ss.take i) first) from rfl, show (bareJob ss[i] (bareLast (ss.take i) first)).proofs = bareP ss[i] (bareLast (ss.take i) first) from rfl,
    bare_ok (hs _ (List.getElem_mem hi)) (bareLast_chk hc)]
  rfl
theorem bareCase_bares (hs : ∀ s ∈ ss, secB s = true) (hc : chkL first = 0) : (bareCase ss first place w r0 r1 r2).bares = true := by
  unfold Cs.bares
  rw [List.all_eq_true]
  intro i hi
  have hi' : i < ss.length := by have := List.mem_range.1 hi; unfold bareCase at this; simpa using this
  exact (bareCase_bare hs hc hi').1
/-- Where all jobs are bare, the way finds nothing. -/
theorem way_empty {c : Cs} : ∀ (f i k : Nat), (∀ j, i ≤ j → j < i + f → (c.jobAt j).emptyB = true) → c.way f i k = (0, 0)
  | 0, _, _, _ => rfl
  | f + 1, i, k, h => by
    show (if (c.jobAt i).emptyB = true then c.way f (i + 1) k else _) = _
    rw [if_pos (h i (Nat.le_refl i) (by omega))]
    exact way_empty f (i + 1) k (fun j h1 h2 => h j (by omega) (by omega))
theorem bareCase_check (hs : ∀ s ∈ ss, secB s = true) (h2 : 2 ≤ ss.length) (h9 : ss.length ≤ 9) (h0 : first.length ≠ 0) (hc : chkL first = 0) (hp0 : 0 ≤ place) (hp1 : place < first.length) :
    (bareCase ss first place w r0 r1 r2).check = if (bareCase ss first place w r0 r1 r2).sealed = true then (0, 0, 0) else (0, 1, 0) := by
  rw [check_of (bareCase_formed h2 h9 h0 hc hp0 hp1) (bareCase_valid hs) (bareCase_bares hs hc)]
  have hw : (bareCase ss first place w r0 r1 r2).way (bareCase ss first place w r0 r1 r2).keys.length 0 (bareCase ss first place w r0 r1 r2).place.toNat = (0, 0) :=
    way_empty _ _ _ (fun j _ hj => (bareCase_bare hs hc (by have : (bareCase ss first place w r0 r1 r2).keys.length = ss.length := by unfold bareCase; simp
                                                            omega)).2)
  rw [hw]
end
theorem foldV_rest : ∀ {l : List Int} {c : Int}, validB c = true → (∀ k ∈ l, validB k = true) → foldV c l = some (mp c ((restL l).getD 0 0))
  | [], c, hc, _ => by
    show some c = some (mp c 1)
    rw [mp_one' hc]
  | k :: l, c, hc, h => by
    have hk := h k (by simp)
    have hl : ∀ x ∈ l, validB x = true := fun x hx => h x (List.mem_cons_of_mem _ hx)
    have hr : validB ((restL l).getD 0 0) = true := by
      rw [List.getD_eq_getElem?_getD, List.getElem?_eq_getElem (by rw [restL_length]; omega)]
      exact restL_valid hl _ (List.getElem_mem _)
    have he : (restL (k :: l)).getD 0 0 = mp k ((restL l).getD 0 0) := by
      obtain ⟨r, h1, h2⟩ := restL_head (l := l)
      show mulV k ((restL l).headD 1) = _
      have : (restL l).getD 0 0 = (restL l).headD 1 := by rw [List.getD_eq_getElem?_getD, h1, ← h2]; rfl
      rw [this] at hr ⊢
      exact mulV_eq hk hr
    rw [he]
    unfold foldV
    rw [(mulV_yes hc hk).2, if_pos rfl, mulV_eq hc hk]
    have ih := foldV_rest (l := l) (c := c * k % 2147483579) (valid_mul hc hk) hl
    rw [ih]
    show some (mp (mp c k) _) = some (mp c (mp k _))
    congr 1
    ac_rfl
/-- The joint key is what remains of all. -/
theorem join_rest {l : List Int} (h : ∀ k ∈ l, validB k = true) : joinV l = (restL l).getD 0 0 ∧ joinE l = 0 := by
  have hr : validB ((restL l).getD 0 0) = true := by
    rw [List.getD_eq_getElem?_getD, List.getElem?_eq_getElem (by rw [restL_length]; omega)]
    exact restL_valid h _ (List.getElem_mem _)
  have := foldV_rest valid_one h
  unfold joinV joinE
  rw [this]
  rw [mp_one hr]
  refine ⟨?_, ?_⟩
  · simp only [Option.getD_some]
  · simp only [Option.isSome_some, if_true]
/-- What is bared, is stripped. -/
theorem bareX_at {s : Int} {l : List Ltr} {k : Nat} {x : Ltr} (h : l[k]? = some x) (hx : x.good = true) : (bareX s l)[k]? = some (stripL s x) := by
  unfold bareX
  rw [List.getElem?_map, h]
  show some (x.by (bareF s)) = _
  refine congrArg some ?_
  refine Ltr.ext_at (fun j => ?_)
  obtain ⟨ha, hb⟩ := good_at hx j
  rw [(Ltr.by_at _ x j).1, (Ltr.by_at _ x j).2, (stripL_at s x j).1, (stripL_at s x j).2]
  unfold bareF
  dsimp only
  rw [mulL_mp hb (valid_pow (valid_pow ha _) _), powV_mul ha]
  refine ⟨rfl, ?_⟩
  rw [show s * -1 = -s by omega]
/-- In the end a letter says its words. -/
theorem bare_says {w : Wd} (hw : w.ok) : ∀ {ss : List Int} {b : List Ltr} {k : Nat} {x : Ltr}, (∀ s ∈ ss, secB s = true) → b[k]? = some x → x.good = true → Enc ((restL (ss.map pubV)).getD 0 0) w.el x →
    ∃ y, (bareLast ss b)[k]? = some y ∧ y.good = true ∧ readV y = w
  | [], b, k, x, _, hx, hg, he => ⟨x, hx, hg, enc_read hw hg he⟩
  | s :: ss, b, k, x, hs, hx, hg, he => by
    have hss : ∀ t ∈ ss, secB t = true := fun t ht => hs t (List.mem_cons_of_mem _ ht)
    have hv : ∀ q ∈ ss.map pubV, validB q = true := fun q hq => by obtain ⟨t, h1, rfl⟩ := List.mem_map.1 hq; exact pub_valid (hss t h1)
    have hr : validB ((restL (ss.map pubV)).getD 0 0) = true := by
      rw [List.getD_eq_getElem?_getD, List.getElem?_eq_getElem (by rw [restL_length]; omega)]
      exact restL_valid hv _ (List.getElem_mem _)
    have h1 := restL_at (l := (s :: ss).map pubV) (i := 0) (by simp)
    have h2 : (restL ((s :: ss).map pubV)).getD 0 0 = mp (powV 4 s) ((restL (ss.map pubV)).getD 0 0) := by
      rw [h1]
      show mulV (pubV s) ((restL (ss.map pubV)).getD 0 0) = _
      rw [pubV_eq (hs s (by simp)), mulV_eq (valid_pow valid_four s) hr]; rfl
    rw [h2] at he
    exact bare_says (ss := ss) (b := bareX s b) hw hss (bareX_at hx hg) (strip_good hg) (enc_strip hr (fun k => (elem_ok (hw k)).1) he)
end Go.Proofs.YthgppaiiapkdjaaGreatDoor

/-
  The examples of the chapter, in plain words.
-/
namespace Go.Proofs.YthgppaiiapkdjaaGreatDoor
open Go.RowKit

theorem pub3 : pubV 3 = 64 := by
  rw [pubV_eq (by decide)]
  unfold powV
  rw [if_pos valid_four]
  decide
theorem pub4 : pubV 4 = 256 := by
  rw [pubV_eq (by decide)]
  unfold powV
  rw [if_pos valid_four]
  decide
theorem pow43 : powV 4 3 = 64 := by unfold powV; rw [if_pos valid_four]; decide
theorem pow44 : powV 4 4 = 256 := by unfold powV; rw [if_pos valid_four]; decide
def wS : Wd := ⟨5, 6, 7⟩
theorem wS_ok : wS.ok := fun k => by
  match k with
  | 0 => exact (by decide : elemB 5 = true)
  | 1 => exact (by decide : elemB 6 = true)
  | 2 => exact (by decide : elemB 7 = true)
/-- The joint key of the example. -/
def jS : Int := (restL [64, 256]).getD 0 0
theorem keys_ok : ∀ k ∈ [(64 : Int), 256], validB k = true := by
  intro k hk
  simp only [List.mem_cons, List.not_mem_nil, or_false] at hk
  rcases hk with rfl | rfl
  · rw [← pub3]; exact pub_valid (by decide)
  · rw [← pub4]; exact pub_valid (by decide)
theorem jS_join : joinV [64, 256] = jS ∧ joinE [64, 256] = 0 := join_rest keys_ok
theorem rest_head_valid {l : List Int} (h : ∀ k ∈ l, validB k = true) : validB ((restL l).getD 0 0) = true := by
  rw [List.getD_eq_getElem?_getD, List.getElem?_eq_getElem (by rw [restL_length]; omega)]
  exact restL_valid h _ (List.getElem_mem _)
theorem jS_valid : validB jS = true := rest_head_valid keys_ok
theorem seal_is {w : Wd} (hw : w.ok) {key : Int} (hk : validB key = true) (r0 r1 r2 : Int) : sealV key w.x w.y w.z r0 r1 r2 = moreL key r0 r1 r2 (seal0 w.x w.y w.z) ∧ sealE key w.x w.y w.z = 0 := by
  have hb := sealB_ok.2 hw
  unfold sealV sealE
  rw [if_pos hk, if_pos hk, if_pos hb, if_pos hb]
  exact ⟨rfl, rfl⟩
theorem sealS (r0 r1 r2 : Int) : sealV jS 5 6 7 r0 r1 r2 = moreL jS r0 r1 r2 (seal0 5 6 7) ∧ sealE jS 5 6 7 = 0 := by
  have h := seal_is wS_ok jS_valid r0 r1 r2
  have hx : wS.x = 5 := rfl
  have hy : wS.y = 6 := rfl
  have hz : wS.z = 7 := rfl
  rw [hx, hy, hz] at h
  generalize jS = J at *
  exact h
/-- The letter of the example. -/
def lS : Ltr := moreL jS 1 2 3 (seal0 5 6 7)
theorem lS_good : lS.good = true := seal_good (w := wS) jS_valid wS_ok
theorem lS_chk : chkL [lS] = 0 := chk_one lS_good
theorem secs_ok : ∀ s ∈ [(3 : Int), 4], secB s = true := by
  intro s hs
  simp only [List.mem_cons, List.not_mem_nil, or_false] at hs
  rcases hs with rfl | rfl <;> decide
def cS (r2 : Int) : Cs := bareCase [3, 4] [lS] 0 wS 1 2 r2
theorem cS_rest (r2 : Int) : (cS r2).restAt 0 = jS := by
  unfold Cs.restAt cS bareCase jS
  simp only [List.map, pub3, pub4]
theorem cS_sealed (r2 : Int) : (cS r2).sealed = (moreL jS 1 2 r2 (seal0 5 6 7)).eqB lS := by
  have hx : (cS r2).words.x = 5 := rfl
  have hy : (cS r2).words.y = 6 := rfl
  have hz : (cS r2).words.z = 7 := rfl
  have h0 : (cS r2).r0 = 1 := rfl
  have h1 : (cS r2).r1 = 2 := rfl
  have h2 : (cS r2).r2 = r2 := rfl
  have hf : (cS r2).first.getD (cS r2).place.toNat zeroL = lS := rfl
  unfold Cs.sealed
  rw [cS_rest, hx, hy, hz, h0, h1, h2, hf, (sealS 1 2 r2).1, (sealS 1 2 r2).2]
  simp only [decide_true, Bool.true_and]
theorem cS_check (r2 : Int) : (cS r2).check = if (cS r2).sealed = true then (0, 0, 0) else (0, 1, 0) :=
  bareCase_check secs_ok (by decide) (by decide) (by decide) lS_chk (by decide) (by decide)
theorem cS_right : (cS 3).check = (0, 0, 0) := by
  have h : (moreL jS 1 2 3 (seal0 5 6 7)).eqB lS = true := Ltr.eqB_iff.2 (show _ = lS from rfl)
  rw [cS_check, cS_sealed, if_pos h]
theorem cS_other : (cS 4).check = (0, 1, 0) := by
  rw [cS_check, cS_sealed, if_neg]
  intro h
  have h1 := Ltr.eqB_iff.1 h
  have h2 := (moreL_at jS 1 2 4 (seal0 5 6 7) 2).1
  have h3 := (moreL_at jS 1 2 3 (seal0 5 6 7) 2).1
  rw [h1] at h2
  rw [show lS = moreL jS 1 2 3 (seal0 5 6 7) from rfl, h3, show (seal0 5 6 7).aAt 2 = 1 from rfl, mp_one (valid_pow valid_four _), mp_one (valid_pow valid_four _)] at h2
  change powV 4 3 = powV 4 4 at h2
  rw [pow43, pow44] at h2
  omega
/-- With another second job. -/
def dS (j : Jb) : Cs := { cS 3 with jobs := [bareJob 3 [lS], j] }
theorem dS_formed (j : Jb) : (dS j).formed = true := bareCase_formed (ss := [3, 4]) (first := [lS]) (place := 0) (w := wS) (r0 := 1) (r1 := 2) (r2 := 3) (by decide) (by decide) (by decide) lS_chk (by decide) (by decide)
theorem dS_valid (j : Jb) : (dS j).valid = true := bareCase_valid (ss := [3, 4]) (first := [lS]) (place := 0) (w := wS) (r0 := 1) (r1 := 2) (r2 := 3) secs_ok
theorem dS_bare0 (j : Jb) : (dS j).bareAt 0 = true := (bareCase_bare (ss := [3, 4]) (first := [lS]) (place := 0) (w := wS) (r0 := 1) (r1 := 2) (r2 := 3) (i := 0) secs_ok lS_chk (by decide)).1
theorem dS_silent {j : Jb} (hj : j.emptyB = false) : (dS j).check = (1, 5, 0) := by
  have h1 : (dS j).bareAt 1 = true := by
    unfold Cs.bareAt
    rw [show (dS j).jobAt 1 = j from rfl, hj]; rfl
  have hb : (dS j).bares = true := by
    unfold Cs.bares
    rw [List.all_eq_true]
    intro i hi
    have hi' : i < 2 := List.mem_range.1 hi
    obtain rfl | rfl : i = 0 ∨ i = 1 := by omega
    · exact dS_bare0 j
    · exact h1
  have hs : (dS j).sealed = true := by
    show (cS 3).sealed = true
    rw [cS_sealed]; exact Ltr.eqB_iff.2 rfl
  have hw : (dS j).way 2 0 0 = (1, 5) := by
    show (if ((dS j).jobAt 0).emptyB = true then (if ((dS j).jobAt 1).emptyB = true then _ else if (dS j).whyAt 1 0 = 0 then _ else (((1 : Nat) : Int), (dS j).whyAt 1 0)) else _) = _
    rw [if_pos (show ((dS j).jobAt 0).emptyB = true from rfl), show (dS j).jobAt 1 = j from rfl, if_neg (by rw [hj]; simp)]
    have h5 : (dS j).whyAt 1 0 = 5 := Cs.why5 rfl
    rw [h5, if_neg (by omega)]; rfl
  rw [check_of (dS_formed j) (dS_valid j) hb, if_pos hs]
  show (((dS j).way 2 0 0).1, ((dS j).way 2 0 0).2, (0 : Int)) = _
  rw [hw]
theorem dS_zero : (dS zeroJ).check = (0, 0, 550) := by
  have hb : (dS zeroJ).bares = false := by
    unfold Cs.bares
    refine List.all_eq_false.2 ⟨1, List.mem_range.2 (by decide), ?_⟩
    have : (dS zeroJ).bareAt 1 = false := by
      unfold Cs.bareAt
      rw [show (dS zeroJ).jobAt 1 = zeroJ from rfl]
      show (!true || checkBareB _ ((dS zeroJ).inAt 1) [] []) = false
      unfold checkBareB
      rw [decide_eq_false (p := ((dS zeroJ).inAt 1).length = ([] : List Ltr).length) (by show ¬ (bareX 3 [lS]).length = 0; unfold bareX; simp)]
      simp
    rw [this]; simp
  unfold Cs.check
  rw [if_pos (dS_formed _), if_pos (dS_valid _), if_neg (by rw [hb]; simp)]
def zeroC : Cs := ⟨[], [], [], 0, ⟨0, 0, 0⟩, 0, 0, 0, []⟩
theorem zeroC_check : zeroC.check = (0, 0, 550) := by
  unfold Cs.check
  rw [if_neg]
  decide
end Go.Proofs.YthgppaiiapkdjaaGreatDoor
