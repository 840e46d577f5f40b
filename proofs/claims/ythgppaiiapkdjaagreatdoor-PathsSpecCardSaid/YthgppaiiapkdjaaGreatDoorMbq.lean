/-
  Letters under a key that remains: sealed, stripped, sealed again, read. Plain algebra.
-/
import Derived.Test.YthgppaiiapkdjaaGreatDoorMbp
import Derived.Test.YthgppaiiapkdjaaGreatDoorMbo
import Derived.Test.YthgppaiiapkdjaaGreatDoorMbd
namespace Go.Proofs.YthgppaiiapkdjaaGreatDoor
open Go.RowKit

/-- A number that is no square: its opposite is one. -/
theorem neg_valid {n : Int} (h1 : 1 ≤ n) (h2 : n < 2147483579) (h : ¬ validB n = true) : validB (2147483579 - n) = true := by
  obtain ⟨m, rfl⟩ := Int.eq_ofNat_of_zero_le (show 0 ≤ n by omega)
  have hm0 : 0 < m := by omega
  have hm1 : m < Pn := by show m < 2147483579; omega
  have hne : powP m Qn ≠ 1 := fun e => h (vN_to ⟨hm0, hm1, e⟩)
  have hc := Pn_prime hm0 hm1
  have hp : ∀ a, 0 < a → a < 2 * Qn + 1 → Nat.Coprime (2 * Qn + 1) a := fun a h2 h3 => Pn_prime h2 h3
  have hg := gauss_pow (h := Qn) (a := m) (by decide) hp hc
  have hm : powP m Qn = 2147483578 := by
    unfold powP at hne ⊢
    rw [Pn_eq] at hne ⊢
    rw [hg] at hne ⊢
    split at hne
    · exact absurd rfl hne
    · rename_i hh; rw [if_neg hh]; rfl
  have hmo : powP 2147483578 Qn = 2147483578 := by rw [powP_fast (by decide)]; decide +kernel
  have e : (m * 2147483578) % Pn = Pn - m := by
    have : m * 2147483578 = (Pn - m) + Pn * (m - 1) := by
      show m * 2147483578 = (2147483579 - m) + 2147483579 * (m - 1)
      have : m < 2147483579 := hm1
      omega
    rw [this, Nat.add_mul_mod_self_left, Nat.mod_eq_of_lt (by omega)]
  have ht := powP_times m 2147483578 Qn
  rw [e, hm, hmo] at ht
  have hv : vN (Pn - m) := ⟨by omega, by omega, ht.trans (by decide)⟩
  have := vN_to hv
  have hcast : (((Pn - m : Nat)) : Int) = 2147483579 - (m : Int) := by
    have : m < 2147483579 := hm1
    show ((2147483579 - m : Nat) : Int) = _
    omega
  rw [hcast] at this
  exact this
theorem elem_ok {n : Int} (h : elemB n = true) : validB (elemV n) = true ∧ numV (elemV n) = n := by
  have hr : 1 ≤ n ∧ n ≤ 1073741789 := by
    unfold elemB elemE at h
    split at h
    · assumption
    · simp at h
  unfold elemV
  rw [if_pos hr]
  by_cases hv : validB n = true
  · rw [if_pos hv]
    refine ⟨hv, ?_⟩
    unfold numV
    rw [if_pos hv, if_pos (by omega)]
  · rw [if_neg hv]
    have hv' := neg_valid hr.1 (by omega) hv
    refine ⟨hv', ?_⟩
    unfold numV
    rw [if_pos hv', if_neg (by omega)]
    omega

/-- A letter of elements e, under what remains of the key. -/
def Enc (R : Int) (e : Fin 3 → Int) (x : Ltr) : Prop := ∃ r : Fin 3 → Int, ∀ k, x.aAt k = powV 4 (r k) ∧ x.bAt k = mp (e k) (powV R (r k))
def Wd.at_ (w : Wd) (k : Fin 3) : Int := match k with | 0 => w.x | 1 => w.y | 2 => w.z
def Wd.el (w : Wd) (k : Fin 3) : Int := elemV (w.at_ k)
def rAt (r0 r1 r2 : Int) (k : Fin 3) : Int := match k with | 0 => r0 | 1 => r1 | 2 => r2
theorem tl_mp (a b : Int) : timesL [a, b] = mp a b := timesL_two a b
theorem moreL_at (key r0 r1 r2 : Int) (x : Ltr) (k : Fin 3) : (moreL key r0 r1 r2 x).aAt k = mp (x.aAt k) (powV 4 (rAt r0 r1 r2 k)) ∧ (moreL key r0 r1 r2 x).bAt k = mp (x.bAt k) (powV key (rAt r0 r1 r2 k)) := by
  match k with
  | 0 => exact ⟨tl_mp _ _, tl_mp _ _⟩
  | 1 => exact ⟨tl_mp _ _, tl_mp _ _⟩
  | 2 => exact ⟨tl_mp _ _, tl_mp _ _⟩
theorem stripL_at (n : Int) (x : Ltr) (k : Fin 3) : (stripL n x).aAt k = x.aAt k ∧ (stripL n x).bAt k = mp (x.bAt k) (powV (x.aAt k) (-n)) := by
  match k with
  | 0 => exact ⟨rfl, tl_mp _ _⟩
  | 1 => exact ⟨rfl, tl_mp _ _⟩
  | 2 => exact ⟨rfl, tl_mp _ _⟩
theorem good_of_at {x : Ltr} (h : ∀ k, validB (x.aAt k) = true ∧ validB (x.bAt k) = true) : x.good = true :=
  Ltr.good_of _ (fun k => by rw [goodAt_eq, (h k).1, (h k).2]; rfl)
theorem strip_good {n : Int} {x : Ltr} (h : x.good = true) : (stripL n x).good = true := good_of_at (fun k => by
  obtain ⟨ha, hb⟩ := good_at h k
  rw [(stripL_at n x k).1, (stripL_at n x k).2]
  exact ⟨ha, mp_valid hb (valid_pow ha _)⟩)
theorem more_good {key r0 r1 r2 : Int} {x : Ltr} (hk : validB key = true) (h : x.good = true) : (moreL key r0 r1 r2 x).good = true := good_of_at (fun k => by
  obtain ⟨ha, hb⟩ := good_at h k
  rw [(moreL_at key r0 r1 r2 x k).1, (moreL_at key r0 r1 r2 x k).2]
  exact ⟨mp_valid ha (valid_pow valid_four _), mp_valid hb (valid_pow hk _)⟩)
theorem seal0_at (w : Wd) (k : Fin 3) : (seal0 w.x w.y w.z).aAt k = 1 ∧ (seal0 w.x w.y w.z).bAt k = w.el k := by
  match k with
  | 0 => exact ⟨rfl, rfl⟩
  | 1 => exact ⟨rfl, rfl⟩
  | 2 => exact ⟨rfl, rfl⟩
def Wd.ok (w : Wd) : Prop := ∀ k, elemB (w.at_ k) = true
theorem sealB_ok {w : Wd} : sealB w.x w.y w.z = true ↔ w.ok := by
  unfold sealB Wd.ok
  simp only [Bool.and_eq_true]
  constructor
  · rintro ⟨⟨h0, h1⟩, h2⟩ k
    match k with
    | 0 => exact h0
    | 1 => exact h1
    | 2 => exact h2
  · intro h; exact ⟨⟨h 0, h 1⟩, h 2⟩
theorem seal_good {key r0 r1 r2 : Int} {w : Wd} (hk : validB key = true) (hw : w.ok) : (moreL key r0 r1 r2 (seal0 w.x w.y w.z)).good = true :=
  more_good hk (good_of_at (fun k => by rw [(seal0_at w k).1, (seal0_at w k).2]; exact ⟨valid_one, (elem_ok (hw k)).1⟩))
theorem enc_seal {key r0 r1 r2 : Int} (w : Wd) : Enc key w.el (moreL key r0 r1 r2 (seal0 w.x w.y w.z)) := ⟨rAt r0 r1 r2, fun k => by
  rw [(moreL_at key r0 r1 r2 _ k).1, (moreL_at key r0 r1 r2 _ k).2, (seal0_at w k).1, (seal0_at w k).2]
  exact ⟨mp_one (valid_pow valid_four _), rfl⟩⟩
theorem enc_more {key r0 r1 r2 : Int} {e : Fin 3 → Int} {x : Ltr} (hk : validB key = true) (h : Enc key e x) : Enc key e (moreL key r0 r1 r2 x) := by
  obtain ⟨r, hr⟩ := h
  refine ⟨fun k => r k + rAt r0 r1 r2 k, fun k => ?_⟩
  rw [(moreL_at key r0 r1 r2 x k).1, (moreL_at key r0 r1 r2 x k).2, (hr k).1, (hr k).2, pow_add' valid_four, pow_add' hk]
  exact ⟨rfl, by ac_rfl⟩
theorem enc_strip {s R : Int} {e : Fin 3 → Int} {x : Ltr} (hR : validB R = true) (he : ∀ k, validB (e k) = true) (h : Enc (mp (powV 4 s) R) e x) : Enc R e (stripL s x) := by
  obtain ⟨r, hr⟩ := h
  refine ⟨r, fun k => ?_⟩
  rw [(stripL_at s x k).1, (stripL_at s x k).2, (hr k).1, (hr k).2, pow_mp (valid_pow valid_four s) hR, powV_mul valid_four, powV_mul valid_four]
  refine ⟨rfl, ?_⟩
  have e1 : r k * -s = -(s * r k) := by rw [Int.mul_neg, Int.mul_comm]
  rw [e1]
  have h1 := pow_inv valid_four (s * r k)
  have : mp (mp (e k) (mp (powV 4 (s * r k)) (powV R (r k)))) (powV 4 (-(s * r k))) = mp (mp (powV 4 (s * r k)) (powV 4 (-(s * r k)))) (mp (e k) (powV R (r k))) := by ac_rfl
  rw [this, h1, mp_one (mp_valid (he k) (valid_pow hR _))]
theorem enc_read {w : Wd} {x : Ltr} (hw : w.ok) (hx : x.good = true) (h : Enc 1 w.el x) : readV x = w := by
  obtain ⟨r, hr⟩ := h
  have hb : ∀ k, x.bAt k = w.el k := fun k => by
    rw [(hr k).2]
    have : powV 1 (r k) = 1 := by
      unfold powV
      rw [if_pos valid_one]
      show ((powP 1 (expN (r k)) : Nat) : Int) = 1
      rw [one_powP]; rfl
    rw [this]
    exact mp_one' (elem_ok (hw k)).1
  have hn : ∀ k, numV (x.bAt k) = w.at_ k := fun k => by rw [hb k]; exact (elem_ok (hw k)).2
  unfold readV
  rw [if_pos hx]
  have h0 := hn 0
  have h1 := hn 1
  have h2 := hn 2
  cases w
  show (⟨numV x.b0, numV x.b1, numV x.b2⟩ : Wd) = _
  rw [show numV x.b0 = _ from h0, show numV x.b1 = _ from h1, show numV x.b2 = _ from h2]
  rfl
/-- Different words, different letters. -/
theorem seal_inj {key r0 r1 r2 : Int} {w v : Wd} (hk : validB key = true) (hw : w.ok) (hv : v.ok) (h : moreL key r0 r1 r2 (seal0 w.x w.y w.z) = moreL key r0 r1 r2 (seal0 v.x v.y v.z)) : w = v := by
  have hb : ∀ k, w.at_ k = v.at_ k := fun k => by
    have h1 := (moreL_at key r0 r1 r2 (seal0 w.x w.y w.z) k).2
    have h2 := (moreL_at key r0 r1 r2 (seal0 v.x v.y v.z) k).2
    rw [h, h2, (seal0_at w k).2, (seal0_at v k).2] at h1
    have := cancel_mul (valid_pow hk _) (elem_ok (hv k)).1 (elem_ok (hw k)).1 h1
    rw [← (elem_ok (hw k)).2, ← (elem_ok (hv k)).2]
    exact congrArg numV this.symm
  have h0 := hb 0
  have h1 := hb 1
  have h2 := hb 2
  cases w; cases v
  simp only [Wd.at_] at h0 h1 h2
  subst h0; subst h1; subst h2; rfl
/-- Another number, another letter. -/
theorem seal_next {key r0 r1 r2 : Int} {w : Wd} : moreL key r0 (r1.tmod 1073741789 + 1) r2 (seal0 w.x w.y w.z) ≠ moreL key r0 r1 r2 (seal0 w.x w.y w.z) := fun h => by
  have h1 := (moreL_at key r0 (r1.tmod 1073741789 + 1) r2 (seal0 w.x w.y w.z) 1).1
  have h2 := (moreL_at key r0 r1 r2 (seal0 w.x w.y w.z) 1).1
  rw [h, h2, (seal0_at w 1).1, mp_one (valid_pow valid_four _), mp_one (valid_pow valid_four _)] at h1
  change powV 4 r1 = powV 4 (r1.tmod 1073741789 + 1) at h1
  have e : (r1.tmod 1073741789 + 1) % 1073741789 = (r1 + 1) % 1073741789 := by
    have := tmod_emod r1
    omega
  rw [powV_cong e, pow_add' valid_four, powV_one valid_four] at h1
  have h3 : mp 1 (powV 4 r1) = mp 4 (powV 4 r1) := by
    rw [mp_one (valid_pow valid_four _)]
    exact h1.trans (by ac_rfl)
  have := cancel_mul (valid_pow valid_four r1) valid_one valid_four h3
  omega
end Go.Proofs.YthgppaiiapkdjaaGreatDoor

/-
  The reference's After, walked; what it says is what the program's way says.
-/
namespace Go.Proofs.YthgppaiiapkdjaaGreatDoor
open Go.RowKit

def afterP (key rest : Int) (j : Jb) (s : Stp) (inn : List Ltr) (k : Nat) : Int × Int :=
  if s.mid = -1 then (k, 5) else if strippedB key inn j k = true then (if openedR rest inn.length j s k = true then (s.right.at_, 0) else (k, 4)) else (k, 3)
theorem stp_info : (Tryz.prog.info? 74).map (·.size) = some 74 := by kernel_rfl
/-- A step of a slice. -/
theorem stp_at {w : World} {B n k : Nat} {A : Option Addr} {l : List Stp} {s : Stp} (h : Rd w B 74 A n (l.flatMap Stp.cl)) (ho : ∀ s ∈ l, s.ok) (hk : k < n) (hs : l[k]? = some s) :
    ∃ b off, A = some ⟨b, off, none⟩ ∧ b < B ∧ ∀ w', Below B w w' → (Instr.loadAt 74 (.pointer (some ⟨b, off + k * 74, none⟩))).run Tryz.prog w' = .ok (.agg s.cl.toArray) w' ∧ w'.cell? ⟨b, off + k * 74 + 73, none⟩ = some (.int .i64 s.mid) ∧ w'.cell? ⟨b, off + k * 74 + 37, none⟩ = some (.int .i64 s.right.at_) := by
  obtain ⟨b, off, e, hb, hc⟩ := h.2 (by omega)
  have hm := ho s (List.mem_of_getElem? hs)
  have key : ∀ w', Below B w w' → ∀ j v, s.cl[j]? = some v → w'.cell? ⟨b, off + k * 74 + j, none⟩ = some v := fun w' hw j v hj => by
    rw [hw.cell (p := ⟨b, off + k * 74 + j, none⟩) hb, Nat.add_assoc]
    refine hc _ _ ?_
    have hj74 : j < 74 := by have := (List.getElem?_eq_some_iff.1 hj).1; rw [Stp.cl_length hm] at this; exact this
    rw [flat_mem l k j s (fun y hy => Stp.cl_length (ho y hy)) hs hj74]
    exact hj
  obtain ⟨c0, c1, c2, c3⟩ := Stp.cells hm
  exact ⟨b, off, e, hb, fun w' hw => ⟨run_loadAt_mid _ b (off + k * 74) 74 s.cl _ (key w' hw) Tryz.underlying74 rfl (by rw [Stp.cl_length hm]; exact stp_info), key w' hw 73 _ c3, key w' hw 37 _ ((c2 0 (by omega)).trans rfl)⟩⟩
theorem stripped_len {key : Int} {inn : List Ltr} {j : Jb} {k : Nat} (h : strippedB key inn j k = true) : k < inn.length ∧ j.bare.length = inn.length := stripped_lt h

set_option maxRecDepth 100000 in
set_option maxHeartbeats 8000000 in
theorem ref_after (key rest : Int) (jc : Array Value) (j : Jb) (sl : List Stp) (inn : List Ltr) (leg k : Nat) (At A : Option Addr) (ct c : Nat) (W : World) (h49 : jc.size = 49) (hj : JobAt W W.heap.size (fun i => jc[i]?) j)
    (hT : Rd W W.heap.size 74 At sl.length (sl.flatMap Stp.cl)) (hso : ∀ s ∈ sl, s.ok) (hA : Rd W W.heap.size 6 A inn.length (inn.flatMap Ltr.cl)) :
    Calls Tryz.prog 23 #[.int .i64 key, .int .i64 rest, .agg jc, .slice At sl.length ct, .int .i64 (leg : Nat), .slice A inn.length c, .int .i64 (k : Nat)] W (Ret (.tuple #[.int .i64 (afterP key rest j (sl.getD leg zeroS) inn k).1, .int .i64 (afterP key rest j (sl.getD leg zeroS) inn k).2]) W) := by
  obtain ⟨v, hv⟩ : ∃ v, v = afterP key rest j (sl.getD leg zeroS) inn k := ⟨_, rfl⟩
  rw [← hv]
  unfold afterP at hv
  have BJ := Blk.new W 60 jc _ rfl
  have hb := bAl (bRefl W) (.cells jc 60)
  by_cases hl : leg < sl.length
  case neg =>
    have Hv : Hid (v = ((k : Int), 5)) := by
      show _ = _
      rw [hv, List.getD_eq_getElem?_getD, List.getElem?_eq_none (by omega)]; rfl
    have g1 : (sl.length : Int) ≤ (leg : Int) := by omega
    clear hv hl
    go_enter Tryz.func23, Tryz.ntmps23
    go_upto_region 1 with fail
    generalize W.alloc (.cells jc 60) = w1 at *
    go_wp2_with fail
    go_ret2
    exact ⟨by rw [Hv.out]; rfl, hb⟩
  obtain ⟨s, hs⟩ : ∃ s, Hid (sl[leg]? = some s) := ⟨_, Lib.hid (List.getElem?_eq_getElem hl)⟩
  rw [List.getD_eq_getElem?_getD, hs.out, Option.getD_some] at hv
  have sok := hso s (List.mem_of_getElem? hs.out)
  obtain ⟨bt, ot, eT, hbt, hst0⟩ := stp_at hT hso hl hs.out
  have hst := Lib.hid hst0
  clear hst0
  subst eT
  have g1 : (leg : Int) < (sl.length : Int) := by omega
  have g0 : (0 : Int) ≤ (leg : Int) := by omega
  by_cases hm : s.mid = -1
  case pos =>
    have Hv : Hid (v = ((k : Int), 5)) := by show _ = _; rw [hv, if_pos hm]
    have c73 := (hst.out _ hb).2.1
    have gm : (s.mid == -1) = true := by rw [beq_iff_eq]; exact hm
    clear hv hl hm
    go_enter Tryz.func23, Tryz.ntmps23
    go_upto_region 1 with fail
    generalize W.alloc (.cells jc 60) = w1 at *
    go_wp2_with fail
    go_ret2
    exact ⟨by rw [Hv.out]; rfl, hb⟩
  have gm : (s.mid == -1) = false := by rw [beq_eq_false_iff_ne]; exact hm
  rw [if_neg hm] at hv
  have c73 := (hst.out _ hb).2.1
  have LJ := load_job BJ h49
  have hJ1 := (hj.below hb).more hb.size
  have qb := ref_bare1 key jc inn j k A c (W.alloc (.cells jc 60)) hJ1 ((hA.below hb).more hb.size)
  cases hst2 : strippedB key inn j k
  case false =>
    have Hv : Hid (v = ((k : Int), 3)) := by show _ = _; rw [hv, hst2]; rfl
    rw [hst2] at qb
    clear hv hl hm hst2
    go_enter Tryz.func23, Tryz.ntmps23
    go_upto_region 1 with fail
    generalize W.alloc (.cells jc 60) = w1 at *
    go_upto_region 3 with fail
    apply wp_region_lit
    iterate 3 go_step
    refine wpList_loadG (by rfl) (by rfl) (by rfl) LJ ?_
    simp only [Act.put, List.setIfInBounds_toArray, List.set_cons_zero, List.set_cons_succ]
    go_wp2_with fail
    (with_reducible refine qb.mono ?_)
    rintro e w2 ⟨rfl, b2⟩
    go_wp2_with fail
    go_ret2
    exact ⟨by rw [Hv.out]; rfl, bCall hb b2⟩
  have hsl := stripped_len hst2
  rw [hst2] at qb
  rw [hst2, if_pos rfl] at hv
  have qo := fun w (hw : Below W.heap.size W w) => ref_opened rest jc j s inn.length k w ((hj.below hw).more hw.size) sok hsl.1 hsl.2
  cases ho : openedR rest inn.length j s k
  all_goals
    rw [ho] at qo hv
    have Hv := Lib.hid hv
    clear hv hl hm hst2 ho hsl
    go_enter Tryz.func23, Tryz.ntmps23
    go_upto_region 1 with fail
    generalize W.alloc (.cells jc 60) = w1 at *
    go_upto_region 3 with fail
    apply wp_region_lit
    iterate 3 go_step
    refine wpList_loadG (by rfl) (by rfl) (by rfl) LJ ?_
    simp only [Act.put, List.setIfInBounds_toArray, List.set_cons_zero, List.set_cons_succ]
    go_wp2_with fail
    (with_reducible refine qb.mono ?_)
    rintro e w2 ⟨rfl, b2⟩
    have hb2 := bCall hb b2
    have BJ2 := BJ.below b2 BJ.lt
    have hww := hb2.size
    have q2 := fun w (hw : Below w2.heap.size w2 w) => qo w (bCall hb2 hw)
    have KS : Hid (∀ w', Below w2.heap.size w2 w' → (Instr.loadAt 60 (.pointer (some ⟨W.heap.size, 0, none⟩))).run Tryz.prog w' = .ok (.agg jc) w' ∧ (Instr.loadAt 74 (.pointer (some ⟨bt, ot + leg * 74, none⟩))).run Tryz.prog w' = .ok (.agg s.cl.toArray) w') := Lib.hid (fun w' h => ⟨load_job (BJ2.below h BJ2.lt) h49, (hst.out w' (bCall hb2 h)).1⟩)
    clear qb LJ hb b2 BJ c73 qo hJ1
    go_upto_region 5 with fail
    refine wp_region_sched (fun w' => (Instr.loadAt 60 (.pointer (some ⟨W.heap.size, 0, none⟩))).run Tryz.prog w' = .ok (.agg jc) w' ∧ (Instr.loadAt 74 (.pointer (some ⟨bt, ot + leg * 74, none⟩))).run Tryz.prog w' = .ok (.agg s.cl.toArray) w') 10 [(0, 1), (1, 2), (2, 1), (3, 1), (4, 1), (5, 2), (6, 1), (7, 1), (8, 1), (9, 0), (10, 3)] (by kernel_rfl) (by kernel_rfl) (by exact KS.out _ (by repeat (first | with_reducible exact B7 | with_reducible exact bRefl _ | with_reducible refine bDr ?_ | with_reducible refine bAl ?_ _))) ?_
    simp only [pickS, List.getElem?_cons_zero, List.getElem?_cons_succ]
    refine wpSched_take (v := ?_) (by rfl) ?_ ?_
    rotate_left 1
    focus (intro w hSw; clear hSw; go_simp; try with_reducible rfl)
    try simp only [Act.put, List.setIfInBounds_toArray, List.set_cons_zero, List.set_cons_succ]
    refine wpSched_read (v := ?_) (by rfl) ?_ ?_
    rotate_left 1
    focus (intro w hSw; (first | refine (exec_load rfl rfl hSw).trans ?_ | refine (exec_load rfl rfl hSw.1).trans ?_ | refine (exec_load rfl rfl hSw.2.1).trans ?_ | refine (exec_load rfl rfl hSw.2.2.1).trans ?_ | refine (exec_load rfl rfl hSw.2.2.2.1).trans ?_ | refine (exec_load rfl rfl hSw.2.2.2.2.1).trans ?_ | refine (exec_load rfl rfl hSw.2.2.2.2.2.1).trans ?_ | refine (exec_load rfl rfl hSw.2).trans ?_ | refine (exec_load rfl rfl hSw.2.2).trans ?_ | refine (exec_load rfl rfl hSw.2.2.2).trans ?_); with_reducible rfl)
    try simp only [Act.put, List.setIfInBounds_toArray, List.set_cons_zero, List.set_cons_succ]
    iterate 3 (refine wpSched_take (v := ?_) (by rfl) ?_ ?_; rotate_left 1; focus (intro w hSw; clear hSw; go_simp; try with_reducible rfl); try simp only [Act.put, List.setIfInBounds_toArray, List.set_cons_zero, List.set_cons_succ])
    refine wpSched_read (v := ?_) (by rfl) ?_ ?_
    rotate_left 1
    focus (intro w hSw; (first | refine (exec_load rfl rfl hSw).trans ?_ | refine (exec_load rfl rfl hSw.1).trans ?_ | refine (exec_load rfl rfl hSw.2.1).trans ?_ | refine (exec_load rfl rfl hSw.2.2.1).trans ?_ | refine (exec_load rfl rfl hSw.2.2.2.1).trans ?_ | refine (exec_load rfl rfl hSw.2.2.2.2.1).trans ?_ | refine (exec_load rfl rfl hSw.2.2.2.2.2.1).trans ?_ | refine (exec_load rfl rfl hSw.2).trans ?_ | refine (exec_load rfl rfl hSw.2.2).trans ?_ | refine (exec_load rfl rfl hSw.2.2.2).trans ?_); with_reducible rfl)
    try simp only [Act.put, List.setIfInBounds_toArray, List.set_cons_zero, List.set_cons_succ]
    iterate 3 (refine wpSched_take (v := ?_) (by rfl) ?_ ?_; rotate_left 1; focus (intro w hSw; clear hSw; go_simp; try with_reducible rfl); try simp only [Act.put, List.setIfInBounds_toArray, List.set_cons_zero, List.set_cons_succ])
    refine wpSched_force (fun K hK => ?_)
    go_simp
    first | (go_at_call 50; (with_reducible refine (q2 _ (bDr (bRefl _))).mono ?_); rintro e w9 ⟨rfl, b9⟩; have B7 : Below w2.heap.size w2 w9 := bCall (bDr (bRefl _)) b9) | skip
    refine hK.out _ _ (by exact KS.out _ (by repeat (first | with_reducible exact B7 | with_reducible exact bRefl _ | with_reducible refine bDr ?_ | with_reducible refine bAl ?_ _))) (fun hHeld => ?_)
    clear hHeld hK K
    try simp only [Act.put, List.setIfInBounds_toArray, List.set_cons_zero, List.set_cons_succ]
    refine wpSched_last ?_
    first | simp only [List.map_nil] | simp only [List.map_cons, List.map_nil]
  · go_wp2_with fail
    refine NoPanic.normal ?_
    go_wp2_with fail
    go_ret2
    exact ⟨by rw [Hv.out]; rfl, bCall hb2 B7⟩
  · have c37 := (hst.out _ (bCall hb2 B7)).2.2
    go_wp2_with fail
    refine NoPanic.normal ?_
    go_wp2_with fail
    go_ret2
    exact ⟨by rw [Hv.out]; rfl, bCall hb2 B7⟩

/-- The reference asks what the program asks. -/
theorem again_good {key : Int} {a : Ltr} {r0 r1 r2 : Int} (hk : validB key = true) (ha : a.good = true) : againE key a = 0 ∧ (againV key a r0 r1 r2).good = true := by
  unfold againE againV
  rw [if_pos hk, if_pos hk, if_pos ha, if_pos ha]
  exact ⟨rfl, more_good hk ha⟩
theorem leads_good {key : Int} {a b : Ltr} {r0 r1 r2 : Int} (hk : validB key = true) (ha : a.good = true) : leadsB key a b r0 r1 r2 = b.eqB (againV key a r0 r1 r2) := by
  unfold leadsB
  rw [(again_good (r0 := r0) (r1 := r1) (r2 := r2) hk ha).1]
  rw [Bool.eq_iff_iff]
  simp only [decide_true, Bool.true_and, Ltr.eqB_iff]
  exact ⟨fun h => h.symm, fun h => h.symm⟩
theorem opened_eq {key rest : Int} {inn : List Ltr} {j : Jb} {s : Stp} {k : Nat} (hr : validB rest = true) (h : strippedB key inn j k = true) : openedR rest inn.length j s k = openedB rest inn.length j s k := by
  unfold strippedB at h
  simp only [Bool.and_eq_true, decide_eq_true_eq] at h
  obtain ⟨-, -, -, hb⟩ := h
  unfold checkBareB at hb
  simp only [Bool.and_eq_true, decide_eq_true_eq] at hb
  obtain ⟨-, -, -, -, hg, -⟩ := hb
  have hgood : (j.bare.getD k zeroL).good = true := by
    have := (chkL_ok.1 hg).2
    simpa using this
  unfold openedR openedB
  cases h1 : lensB inn.length j
  · rfl
  cases h2 : (j.mi.getD k zeroL).eqB (j.bare.getD k zeroL)
  · rfl
  have hmi : (j.mi.getD k zeroL).good = true := by rw [Ltr.eqB_iff.1 h2]; exact hgood
  unfold fitsB
  rw [leads_good hr hmi]
  cases h3 : (j.mm.getD s.mid.toNat zeroL).eqB (againV rest (j.mi.getD k zeroL) s.left.r0 s.left.r1 s.left.r2)
  · simp
  have hmm : (j.mm.getD s.mid.toNat zeroL).good = true := by rw [Ltr.eqB_iff.1 h3]; exact (again_good hr hmi).2
  rw [leads_good hr hmm]
  rw [Bool.eq_iff_iff]
  simp only [Bool.and_eq_true, decide_eq_true_eq, Bool.true_and, and_true]
  constructor
  · rintro ⟨a, b, c, d, e, ⟨f, g⟩, h, i⟩
    exact ⟨a, b, c, d, f, g, e, h, i⟩
  · rintro ⟨a, b, c, d, f, g, e, h, i⟩
    exact ⟨a, b, c, d, e, ⟨f, g⟩, h, i⟩
end Go.Proofs.YthgppaiiapkdjaaGreatDoor
