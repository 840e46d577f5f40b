/-
  What equal.Bare makes, is accepted: plain algebra.
-/
import Derived.Test.YtoeobcmmafncmaaDoorMba
namespace Go.Proofs.YtoeobcmmafncmaaDoor
open Go.RowKit

/-- Products of elements. -/
def mp (a b : Int) : Int := a * b % 2147483579
instance mp_comm : Std.Commutative mp := ⟨fun a b => by unfold mp; rw [Int.mul_comm]⟩
instance mp_assoc : Std.Associative mp := ⟨fun a b c => by
  unfold mp
  rw [Int.mul_emod (a * b % 2147483579), Int.emod_emod_of_dvd _ (Int.dvd_refl _), ← Int.mul_emod, Int.mul_emod a (b * c % 2147483579), Int.emod_emod_of_dvd _ (Int.dvd_refl _), ← Int.mul_emod, Int.mul_assoc]⟩
theorem mp_valid {a b : Int} (ha : validB a = true) (hb : validB b = true) : validB (mp a b) = true := valid_mul ha hb
theorem mp_one {a : Int} (ha : validB a = true) : mp 1 a = a := by unfold mp; rw [Int.one_mul, modP ha]
theorem mp_one' {a : Int} (ha : validB a = true) : mp a 1 = a := by unfold mp; rw [Int.mul_one, modP ha]
theorem pow_add' {a : Int} (h : validB a = true) (m n : Int) : powV a (m + n) = mp (powV a m) (powV a n) := powV_add h m n
theorem pow_inv {a : Int} (h : validB a = true) (n : Int) : mp (powV a n) (powV a (-n)) = 1 := by
  rw [← pow_add' h, show n + -n = 0 by omega, powV_zero h]
theorem mulL_mp {a b : Int} (ha : validB a = true) (hb : validB b = true) : mulL [a, b] = mp a b := mulL_two ha hb
theorem pow_neg_neg {a : Int} (h : validB a = true) : powV (powV a (-1)) (-1) = a := by
  rw [powV_mul h, show (-1 : Int) * -1 = 1 by omega, powV_one h]
theorem pow_mp {a b : Int} (ha : validB a = true) (hb : validB b = true) (n : Int) : powV (mp a b) n = mp (powV a n) (powV b n) := powV_times ha hb n
/-- What an answer comes to. -/
theorem answer_back {g : Int} (h : validB g = true) (n E s : Int) : mulL [powV g ((n + E * s) % 1073741789), powV (powV g s) (-E)] = powV g n := by
  rw [mulL_mp (valid_pow h _) (valid_pow (valid_pow h _) _), powV_cong (m := (n + E * s) % 1073741789) (n := n + E * s) (Int.emod_emod_of_dvd _ (Int.dvd_refl _)), pow_add' h, powV_mul h]
  have e : s * -E = -(E * s) := by rw [Int.mul_neg, Int.mul_comm]
  rw [e]
  have h1 := pow_inv h (E * s)
  have : mp (mp (powV g n) (powV g (E * s))) (powV g (-(E * s))) = mp (powV g n) (mp (powV g (E * s)) (powV g (-(E * s)))) := by ac_rfl
  rw [this, h1, mp_one' (valid_pow h _)]
/-- A key that is taken off, shows what it was. -/
theorem off_back {b A : Int} (hb : validB b = true) (hA : validB A = true) : mulL [b, powV (mulL [b, powV A (-1)]) (-1)] = A := by
  have h1 := valid_pow hA (-1)
  have h2 := valid_pow hb (-1)
  rw [mulL_mp hb h1, mulL_mp hb (valid_pow (mp_valid hb h1) _), pow_mp hb h1, pow_neg_neg hA]
  have : mp b (mp (powV b (-1)) A) = mp (mp b (powV b (-1))) A := by ac_rfl
  have h3 : mp b (powV b (-1)) = 1 := powV_inv hb
  rw [this, h3, mp_one hA]
theorem ordB_ok {n : Int} (h : 0 ≤ n ∧ n < 1073741789) : ordB n = true := decide_eq_true h
theorem pubV_eq {s : Int} (h : secB s = true) : pubV s = powV 4 s := if_pos h
theorem bareAt_ok {s : Int} (hs : secB s = true) {x y p : Ltr} (k : Fin 3) (ha : validB (x.aAt k) = true) (hb : validB (x.bAt k) = true)
    (hy : y.aAt k = (bareF s (x.aAt k) (x.bAt k)).1 ∧ y.bAt k = (bareF s (x.aAt k) (x.bAt k)).2) (hp : p.aAt k = (prfF s (x.aAt k) (x.bAt k)).1 ∧ p.bAt k = (prfF s (x.aAt k) (x.bAt k)).2) : bareAt (pubV s) x y p k = true := by
  have hA := valid_pow ha s
  have hD := off_back hb hA
  unfold bareAt
  rw [hy.1, hy.2, hp.1, hp.2]
  unfold bareF prfF
  dsimp only
  rw [hD, pubV_eq hs]
  simp only [decide_true, Bool.true_and]
  have e1 : chk1 (powV 4 s) (x.aAt k) (powV (x.aAt k) s) = true := by unfold chk1; rw [valid_pow valid_four, ha, hA]; rfl
  have e2 : chk2 (provE s (x.aAt k)) (provS s (x.aAt k)) = true := by
    unfold chk2
    rw [ordB_ok (provE_rng s _), ordB_ok (by unfold provS; exact ⟨Int.emod_nonneg _ (by omega), Int.emod_lt_of_pos _ (by omega)⟩)]; rfl
  have e3 : chk3 (powV 4 s) (x.aAt k) (powV (x.aAt k) s) (provE s (x.aAt k)) (provS s (x.aAt k)) = true := by
    unfold chk3
    refine decide_eq_true ?_
    unfold provS
    show provE s (x.aAt k) = (chalV (powV 4 s) (x.aAt k) (powV (x.aAt k) s) (mulL [powV 4 _, powV (powV 4 s) (-provE s (x.aAt k))]) (mulL [powV (x.aAt k) _, powV (powV (x.aAt k) s) (-provE s (x.aAt k))]) : Nat)
    rw [answer_back valid_four, answer_back ha]
    rfl
  unfold checkB
  rw [e1, e2, e3]; rfl
theorem goodAt_eq (x : Ltr) (k : Fin 3) : x.goodAt k = (validB (x.aAt k) && validB (x.bAt k)) := by
  match k with
  | 0 => rfl
  | 1 => rfl
  | 2 => rfl
theorem bareX_good {s : Int} {x : Ltr} (h : x.good = true) : (x.by (bareF s)).good = true := by
  refine Ltr.good_of _ (fun k => ?_)
  obtain ⟨ha, hb⟩ := good_at h k
  obtain ⟨e1, e2⟩ := Ltr.by_at (bareF s) x k
  rw [goodAt_eq, e1, e2]
  have hA := valid_pow ha s
  unfold bareF
  dsimp only
  rw [mulL_mp hb (valid_pow hA _), ha, mp_valid hb (valid_pow hA _)]; rfl
theorem chkL_ok {l : List Ltr} : chkL l = 0 ↔ l.length ≤ 64 ∧ l.all Ltr.good = true := by
  unfold chkL
  constructor
  · intro h
    split at h
    · exact absurd h (by omega)
    · split at h
      · rename_i h1 h2; exact ⟨by omega, h2⟩
      · exact absurd h (by omega)
  · rintro ⟨h1, h2⟩
    rw [if_neg (by omega), if_pos h2]
theorem chkL_bareX {s : Int} {l : List Ltr} (h : chkL l = 0) : chkL (bareX s l) = 0 := by
  obtain ⟨h1, h2⟩ := chkL_ok.1 h
  refine chkL_ok.2 ⟨by unfold bareX; rw [List.length_map]; exact h1, ?_⟩
  rw [List.all_eq_true] at h2 ⊢
  intro y hy
  unfold bareX at hy
  obtain ⟨x, hx, rfl⟩ := List.mem_map.1 hy
  exact bareX_good (h2 x hx)
theorem pub_valid {s : Int} (h : secB s = true) : validB (pubV s) = true := by rw [pubV_eq h]; exact valid_pow valid_four s
/-- What equal.Bare makes, is accepted. -/
theorem bare_ok {s : Int} (hs : secB s = true) {l : List Ltr} (hl : chkL l = 0) : checkBareB (pubV s) l (bareX s l) (bareP s l) = true := by
  obtain ⟨h1, h2⟩ := chkL_ok.1 hl
  rw [List.all_eq_true] at h2
  unfold checkBareB
  rw [pub_valid hs, decide_eq_true (show l.length = (bareX s l).length by unfold bareX; simp), decide_eq_true (show l.length = (bareP s l).length by unfold bareP; simp), decide_eq_true hl, decide_eq_true (chkL_bareX hl)]
  simp only [Bool.true_and]
  refine bareAll_ok (by unfold bareX; simp) (by unfold bareP; simp) (fun z => ?_)
  obtain ⟨ha, hb⟩ := good_at (h2 z.ltr (List.getElem_mem z.hi)) z.k
  have gx : (bareX s l).getD z.i zeroL = z.ltr.by (bareF s) := by
    unfold bareX
    rw [List.getD_eq_getElem?_getD, List.getElem?_map, List.getElem?_eq_getElem z.hi]; rfl
  have gp : (bareP s l).getD z.i zeroL = z.ltr.by (prfF s) := by
    unfold bareP
    rw [List.getD_eq_getElem?_getD, List.getElem?_map, List.getElem?_eq_getElem z.hi]; rfl
  unfold bareZ
  rw [gx, gp]
  exact bareAt_ok hs z.k ha hb (Ltr.by_at _ _ _) (Ltr.by_at _ _ _)
end Go.Proofs.YtoeobcmmafncmaaDoor

/-
  Letters under a key that remains: sealed, stripped, sealed again, read. Plain algebra.
-/
namespace Go.Proofs.YtoeobcmmafncmaaDoor
open Go.RowKit

/-- A number that is no square: its opposite is one. -/
theorem neg_valid {n : Int} (h1 : 1 ≤ n) (h2 : n < 2147483579) (h : ¬ validB n = true) : validB (2147483579 - n) = true := by
  obtain ⟨m, rfl⟩ := Int.eq_ofNat_of_zero_le (show 0 ≤ n by omega)
  have hm0 : 0 < m := by omega
  have hm1 : m < Pn := by show m < 2147483579; omega
  have hne : powP m Qn ≠ 1 := fun e => h (vN_to ⟨hm0, hm1, e⟩)
  have hc := Pn_prime hm0 hm1
  have hp : ∀ a, 0 < a → a < 2 * Qn + 1 → Nat.Coprime (2 * Qn + 1) a := fun a h2 h3 => Pn_prime h2 h3
  have hg := gauss_pow (h := Qn) (a := m) (by decide) hp hc
  have hm : powP m Qn = 2147483578 := by
    unfold powP at hne ⊢
    rw [Pn_eq] at hne ⊢
    rw [hg] at hne ⊢
    split at hne
    · exact absurd rfl hne
    · rename_i hh; rw [if_neg hh]; rfl
  have hmo : powP 2147483578 Qn = 2147483578 := by rw [powP_fast (by decide)]; decide +kernel
  have e : (m * 2147483578) % Pn = Pn - m := by
    have : m * 2147483578 = (Pn - m) + Pn * (m - 1) := by
      show m * 2147483578 = (2147483579 - m) + 2147483579 * (m - 1)
      have : m < 2147483579 := hm1
      omega
    rw [this, Nat.add_mul_mod_self_left, Nat.mod_eq_of_lt (by omega)]
  have ht := powP_times m 2147483578 Qn
  rw [e, hm, hmo] at ht
  have hv : vN (Pn - m) := ⟨by omega, by omega, ht.trans (by decide)⟩
  have := vN_to hv
  have hcast : (((Pn - m : Nat)) : Int) = 2147483579 - (m : Int) := by
    have : m < 2147483579 := hm1
    show ((2147483579 - m : Nat) : Int) = _
    omega
  rw [hcast] at this
  exact this
theorem elem_ok {n : Int} (h : elemB n = true) : validB (elemV n) = true ∧ numV (elemV n) = n := by
  have hr : 1 ≤ n ∧ n ≤ 1073741789 := by
    unfold elemB elemE at h
    split at h
    · assumption
    · simp at h
  unfold elemV
  rw [if_pos hr]
  by_cases hv : validB n = true
  · rw [if_pos hv]
    refine ⟨hv, ?_⟩
    unfold numV
    rw [if_pos hv, if_pos (by omega)]
  · rw [if_neg hv]
    have hv' := neg_valid hr.1 (by omega) hv
    refine ⟨hv', ?_⟩
    unfold numV
    rw [if_pos hv', if_neg (by omega)]
    omega

/-- A letter of elements e, under what remains of the key. -/
def Enc (R : Int) (e : Fin 3 → Int) (x : Ltr) : Prop := ∃ r : Fin 3 → Int, ∀ k, x.aAt k = powV 4 (r k) ∧ x.bAt k = mp (e k) (powV R (r k))
def Wd.at_ (w : Wd) (k : Fin 3) : Int := match k with | 0 => w.x | 1 => w.y | 2 => w.z
def Wd.el (w : Wd) (k : Fin 3) : Int := elemV (w.at_ k)
def rAt (r0 r1 r2 : Int) (k : Fin 3) : Int := match k with | 0 => r0 | 1 => r1 | 2 => r2
theorem tl_mp (a b : Int) : timesL [a, b] = mp a b := timesL_two a b
theorem moreL_at (key r0 r1 r2 : Int) (x : Ltr) (k : Fin 3) : (moreL key r0 r1 r2 x).aAt k = mp (x.aAt k) (powV 4 (rAt r0 r1 r2 k)) ∧ (moreL key r0 r1 r2 x).bAt k = mp (x.bAt k) (powV key (rAt r0 r1 r2 k)) := by
  match k with
  | 0 => exact ⟨tl_mp _ _, tl_mp _ _⟩
  | 1 => exact ⟨tl_mp _ _, tl_mp _ _⟩
  | 2 => exact ⟨tl_mp _ _, tl_mp _ _⟩
theorem stripL_at (n : Int) (x : Ltr) (k : Fin 3) : (stripL n x).aAt k = x.aAt k ∧ (stripL n x).bAt k = mp (x.bAt k) (powV (x.aAt k) (-n)) := by
  match k with
  | 0 => exact ⟨rfl, tl_mp _ _⟩
  | 1 => exact ⟨rfl, tl_mp _ _⟩
  | 2 => exact ⟨rfl, tl_mp _ _⟩
theorem good_of_at {x : Ltr} (h : ∀ k, validB (x.aAt k) = true ∧ validB (x.bAt k) = true) : x.good = true :=
  Ltr.good_of _ (fun k => by rw [goodAt_eq, (h k).1, (h k).2]; rfl)
theorem strip_good {n : Int} {x : Ltr} (h : x.good = true) : (stripL n x).good = true := good_of_at (fun k => by
  obtain ⟨ha, hb⟩ := good_at h k
  rw [(stripL_at n x k).1, (stripL_at n x k).2]
  exact ⟨ha, mp_valid hb (valid_pow ha _)⟩)
theorem more_good {key r0 r1 r2 : Int} {x : Ltr} (hk : validB key = true) (h : x.good = true) : (moreL key r0 r1 r2 x).good = true := good_of_at (fun k => by
  obtain ⟨ha, hb⟩ := good_at h k
  rw [(moreL_at key r0 r1 r2 x k).1, (moreL_at key r0 r1 r2 x k).2]
  exact ⟨mp_valid ha (valid_pow valid_four _), mp_valid hb (valid_pow hk _)⟩)
theorem seal0_at (w : Wd) (k : Fin 3) : (seal0 w.x w.y w.z).aAt k = 1 ∧ (seal0 w.x w.y w.z).bAt k = w.el k := by
  match k with
  | 0 => exact ⟨rfl, rfl⟩
  | 1 => exact ⟨rfl, rfl⟩
  | 2 => exact ⟨rfl, rfl⟩
def Wd.ok (w : Wd) : Prop := ∀ k, elemB (w.at_ k) = true
theorem sealB_ok {w : Wd} : sealB w.x w.y w.z = true ↔ w.ok := by
  unfold sealB Wd.ok
  simp only [Bool.and_eq_true]
  constructor
  · rintro ⟨⟨h0, h1⟩, h2⟩ k
    match k with
    | 0 => exact h0
    | 1 => exact h1
    | 2 => exact h2
  · intro h; exact ⟨⟨h 0, h 1⟩, h 2⟩
theorem seal_good {key r0 r1 r2 : Int} {w : Wd} (hk : validB key = true) (hw : w.ok) : (moreL key r0 r1 r2 (seal0 w.x w.y w.z)).good = true :=
  more_good hk (good_of_at (fun k => by rw [(seal0_at w k).1, (seal0_at w k).2]; exact ⟨valid_one, (elem_ok (hw k)).1⟩))
theorem enc_seal {key r0 r1 r2 : Int} (w : Wd) : Enc key w.el (moreL key r0 r1 r2 (seal0 w.x w.y w.z)) := ⟨rAt r0 r1 r2, fun k => by
  rw [(moreL_at key r0 r1 r2 _ k).1, (moreL_at key r0 r1 r2 _ k).2, (seal0_at w k).1, (seal0_at w k).2]
  exact ⟨mp_one (valid_pow valid_four _), rfl⟩⟩
theorem enc_more {key r0 r1 r2 : Int} {e : Fin 3 → Int} {x : Ltr} (hk : validB key = true) (h : Enc key e x) : Enc key e (moreL key r0 r1 r2 x) := by
  obtain ⟨r, hr⟩ := h
  refine ⟨fun k => r k + rAt r0 r1 r2 k, fun k => ?_⟩
  rw [(moreL_at key r0 r1 r2 x k).1, (moreL_at key r0 r1 r2 x k).2, (hr k).1, (hr k).2, pow_add' valid_four, pow_add' hk]
  exact ⟨rfl, by ac_rfl⟩
theorem enc_strip {s R : Int} {e : Fin 3 → Int} {x : Ltr} (hR : validB R = true) (he : ∀ k, validB (e k) = true) (h : Enc (mp (powV 4 s) R) e x) : Enc R e (stripL s x) := by
  obtain ⟨r, hr⟩ := h
  refine ⟨r, fun k => ?_⟩
  rw [(stripL_at s x k).1, (stripL_at s x k).2, (hr k).1, (hr k).2, pow_mp (valid_pow valid_four s) hR, powV_mul valid_four, powV_mul valid_four]
  refine ⟨rfl, ?_⟩
  have e1 : r k * -s = -(s * r k) := by rw [Int.mul_neg, Int.mul_comm]
  rw [e1]
  have h1 := pow_inv valid_four (s * r k)
  have : mp (mp (e k) (mp (powV 4 (s * r k)) (powV R (r k)))) (powV 4 (-(s * r k))) = mp (mp (powV 4 (s * r k)) (powV 4 (-(s * r k)))) (mp (e k) (powV R (r k))) := by ac_rfl
  rw [this, h1, mp_one (mp_valid (he k) (valid_pow hR _))]
theorem enc_read {w : Wd} {x : Ltr} (hw : w.ok) (hx : x.good = true) (h : Enc 1 w.el x) : readV x = w := by
  obtain ⟨r, hr⟩ := h
  have hb : ∀ k, x.bAt k = w.el k := fun k => by
    rw [(hr k).2]
    have : powV 1 (r k) = 1 := by
      unfold powV
      rw [if_pos valid_one]
      show ((powP 1 (expN (r k)) : Nat) : Int) = 1
      rw [one_powP]; rfl
    rw [this]
    exact mp_one' (elem_ok (hw k)).1
  have hn : ∀ k, numV (x.bAt k) = w.at_ k := fun k => by rw [hb k]; exact (elem_ok (hw k)).2
  unfold readV
  rw [if_pos hx]
  have h0 := hn 0
  have h1 := hn 1
  have h2 := hn 2
  cases w
  show (⟨numV x.b0, numV x.b1, numV x.b2⟩ : Wd) = _
  rw [show numV x.b0 = _ from h0, show numV x.b1 = _ from h1, show numV x.b2 = _ from h2]
  rfl
/-- Different words, different letters. -/
theorem seal_inj {key r0 r1 r2 : Int} {w v : Wd} (hk : validB key = true) (hw : w.ok) (hv : v.ok) (h : moreL key r0 r1 r2 (seal0 w.x w.y w.z) = moreL key r0 r1 r2 (seal0 v.x v.y v.z)) : w = v := by
  have hb : ∀ k, w.at_ k = v.at_ k := fun k => by
    have h1 := (moreL_at key r0 r1 r2 (seal0 w.x w.y w.z) k).2
    have h2 := (moreL_at key r0 r1 r2 (seal0 v.x v.y v.z) k).2
    rw [h, h2, (seal0_at w k).2, (seal0_at v k).2] at h1
    have := cancel_mul (valid_pow hk _) (elem_ok (hv k)).1 (elem_ok (hw k)).1 h1
    rw [← (elem_ok (hw k)).2, ← (elem_ok (hv k)).2]
    exact congrArg numV this.symm
  have h0 := hb 0
  have h1 := hb 1
  have h2 := hb 2
  cases w; cases v
  simp only [Wd.at_] at h0 h1 h2
  subst h0; subst h1; subst h2; rfl
/-- Another number, another letter. -/
theorem seal_next {key r0 r1 r2 : Int} {w : Wd} : moreL key r0 (r1.tmod 1073741789 + 1) r2 (seal0 w.x w.y w.z) ≠ moreL key r0 r1 r2 (seal0 w.x w.y w.z) := fun h => by
  have h1 := (moreL_at key r0 (r1.tmod 1073741789 + 1) r2 (seal0 w.x w.y w.z) 1).1
  have h2 := (moreL_at key r0 r1 r2 (seal0 w.x w.y w.z) 1).1
  rw [h, h2, (seal0_at w 1).1, mp_one (valid_pow valid_four _), mp_one (valid_pow valid_four _)] at h1
  change powV 4 r1 = powV 4 (r1.tmod 1073741789 + 1) at h1
  have e : (r1.tmod 1073741789 + 1) % 1073741789 = (r1 + 1) % 1073741789 := by
    have := tmod_emod r1
    omega
  rw [powV_cong e, pow_add' valid_four, powV_one valid_four] at h1
  have h3 : mp 1 (powV 4 r1) = mp 4 (powV 4 r1) := by
    rw [mp_one (valid_pow valid_four _)]
    exact h1.trans (by ac_rfl)
  have := cancel_mul (valid_pow valid_four r1) valid_one valid_four h3
  omega
end Go.Proofs.YtoeobcmmafncmaaDoor
