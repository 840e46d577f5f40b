/-
  What equal.Bare makes, is accepted: plain algebra.
-/
import Derived.Test.YthgppaiiapkdjaaDoorMay
import Derived.Test.YthgppaiiapkdjaaDoorMac
namespace Go.Proofs.YthgppaiiapkdjaaDoor
open Go.RowKit

/-- Products of elements. -/
def mp (a b : Int) : Int := a * b % 2147483579
instance mp_comm : Std.Commutative mp := ⟨fun a b => by unfold mp; rw [Int.mul_comm]⟩
instance mp_assoc : Std.Associative mp := ⟨fun a b c => by
  unfold mp
  rw [Int.mul_emod (a * b % 2147483579), Int.emod_emod_of_dvd _ (Int.dvd_refl _), ← Int.mul_emod, Int.mul_emod a (b * c % 2147483579), Int.emod_emod_of_dvd _ (Int.dvd_refl _), ← Int.mul_emod, Int.mul_assoc]⟩
theorem mp_valid {a b : Int} (ha : validB a = true) (hb : validB b = true) : validB (mp a b) = true := valid_mul ha hb
theorem mp_one {a : Int} (ha : validB a = true) : mp 1 a = a := by unfold mp; rw [Int.one_mul, modP ha]
theorem mp_one' {a : Int} (ha : validB a = true) : mp a 1 = a := by unfold mp; rw [Int.mul_one, modP ha]
theorem pow_add' {a : Int} (h : validB a = true) (m n : Int) : powV a (m + n) = mp (powV a m) (powV a n) := powV_add h m n
theorem pow_inv {a : Int} (h : validB a = true) (n : Int) : mp (powV a n) (powV a (-n)) = 1 := by
  rw [← pow_add' h, show n + -n = 0 by omega, powV_zero h]
theorem mulL_mp {a b : Int} (ha : validB a = true) (hb : validB b = true) : mulL [a, b] = mp a b := mulL_two ha hb
theorem pow_neg_neg {a : Int} (h : validB a = true) : powV (powV a (-1)) (-1) = a := by
  rw [powV_mul h, show (-1 : Int) * -1 = 1 by omega, powV_one h]
theorem pow_mp {a b : Int} (ha : validB a = true) (hb : validB b = true) (n : Int) : powV (mp a b) n = mp (powV a n) (powV b n) := powV_times ha hb n
/-- What an answer comes to. -/
theorem answer_back {g : Int} (h : validB g = true) (n E s : Int) : mulL [powV g ((n + E * s) % 1073741789), powV (powV g s) (-E)] = powV g n := by
  rw [mulL_mp (valid_pow h _) (valid_pow (valid_pow h _) _), powV_cong (m := (n + E * s) % 1073741789) (n := n + E * s) (Int.emod_emod_of_dvd _ (Int.dvd_refl _)), pow_add' h, powV_mul h]
  have e : s * -E = -(E * s) := by rw [Int.mul_neg, Int.mul_comm]
  rw [e]
  have h1 := pow_inv h (E * s)
  have : mp (mp (powV g n) (powV g (E * s))) (powV g (-(E * s))) = mp (powV g n) (mp (powV g (E * s)) (powV g (-(E * s)))) := by ac_rfl
  rw [this, h1, mp_one' (valid_pow h _)]
/-- A key that is taken off, shows what it was. -/
theorem off_back {b A : Int} (hb : validB b = true) (hA : validB A = true) : mulL [b, powV (mulL [b, powV A (-1)]) (-1)] = A := by
  have h1 := valid_pow hA (-1)
  have h2 := valid_pow hb (-1)
  rw [mulL_mp hb h1, mulL_mp hb (valid_pow (mp_valid hb h1) _), pow_mp hb h1, pow_neg_neg hA]
  have : mp b (mp (powV b (-1)) A) = mp (mp b (powV b (-1))) A := by ac_rfl
  have h3 : mp b (powV b (-1)) = 1 := powV_inv hb
  rw [this, h3, mp_one hA]
theorem ordB_ok {n : Int} (h : 0 ≤ n ∧ n < 1073741789) : ordB n = true := decide_eq_true h
theorem pubV_eq {s : Int} (h : secB s = true) : pubV s = powV 4 s := if_pos h
theorem bareAt_ok {s : Int} (hs : secB s = true) {x y p : Ltr} (k : Fin 3) (ha : validB (x.aAt k) = true) (hb : validB (x.bAt k) = true)
    (hy : y.aAt k = (bareF s (x.aAt k) (x.bAt k)).1 ∧ y.bAt k = (bareF s (x.aAt k) (x.bAt k)).2) (hp : p.aAt k = (prfF s (x.aAt k) (x.bAt k)).1 ∧ p.bAt k = (prfF s (x.aAt k) (x.bAt k)).2) : bareAt (pubV s) x y p k = true := by
  have hA := valid_pow ha s
  have hD := off_back hb hA
  unfold bareAt
  rw [hy.1, hy.2, hp.1, hp.2]
  unfold bareF prfF
  dsimp only
  rw [hD, pubV_eq hs]
  simp only [decide_true, Bool.true_and]
  have e1 : chk1 (powV 4 s) (x.aAt k) (powV (x.aAt k) s) = true := by unfold chk1; rw [valid_pow valid_four, ha, hA]; rfl
  have e2 : chk2 (provE s (x.aAt k)) (provS s (x.aAt k)) = true := by
    unfold chk2
    rw [ordB_ok (provE_rng s _), ordB_ok (by unfold provS; exact ⟨Int.emod_nonneg _ (by omega), Int.emod_lt_of_pos _ (by omega)⟩)]; rfl
  have e3 : chk3 (powV 4 s) (x.aAt k) (powV (x.aAt k) s) (provE s (x.aAt k)) (provS s (x.aAt k)) = true := by
    unfold chk3
    refine decide_eq_true ?_
    unfold provS
    show provE s (x.aAt k) = (chalV (powV 4 s) (x.aAt k) (powV (x.aAt k) s) (mulL [powV 4 _, powV (powV 4 s) (-provE s (x.aAt k))]) (mulL [powV (x.aAt k) _, powV (powV (x.aAt k) s) (-provE s (x.aAt k))]) : Nat)
    rw [answer_back valid_four, answer_back ha]
    rfl
  unfold checkB
  rw [e1, e2, e3]; rfl
theorem goodAt_eq (x : Ltr) (k : Fin 3) : x.goodAt k = (validB (x.aAt k) && validB (x.bAt k)) := by
  match k with
  | 0 => rfl
  | 1 => rfl
  | 2 => rfl
theorem bareX_good {s : Int} {x : Ltr} (h : x.good = true) : (x.by (bareF s)).good = true := by
  refine Ltr.good_of _ (fun k => ?_)
  obtain ⟨ha, hb⟩ := good_at h k
  obtain ⟨e1, e2⟩ := Ltr.by_at (bareF s) x k
  rw [goodAt_eq, e1, e2]
  have hA := valid_pow ha s
  unfold bareF
  dsimp only
  rw [mulL_mp hb (valid_pow hA _), ha, mp_valid hb (valid_pow hA _)]; rfl
theorem chkL_ok {l : List Ltr} : chkL l = 0 ↔ l.length ≤ 64 ∧ l.all Ltr.good = true := by
  unfold chkL
  constructor
  · intro h
    split at h
    · exact absurd h (by omega)
    · split at h
      · rename_i h1 h2; exact ⟨by omega, h2⟩
      · exact absurd h (by omega)
  · rintro ⟨h1, h2⟩
    rw [if_neg (by omega), if_pos h2]
theorem chkL_bareX {s : Int} {l : List Ltr} (h : chkL l = 0) : chkL (bareX s l) = 0 := by
  obtain ⟨h1, h2⟩ := chkL_ok.1 h
  refine chkL_ok.2 ⟨by unfold bareX; rw [List.length_map]; exact h1, ?_⟩
  rw [List.all_eq_true] at h2 ⊢
  intro y hy
  unfold bareX at hy
  obtain ⟨x, hx, rfl⟩ := List.mem_map.1 hy
  exact bareX_good (h2 x hx)
theorem pub_valid {s : Int} (h : secB s = true) : validB (pubV s) = true := by rw [pubV_eq h]; exact valid_pow valid_four s
/-- What equal.Bare makes, is accepted. -/
theorem bare_ok {s : Int} (hs : secB s = true) {l : List Ltr} (hl : chkL l = 0) : checkBareB (pubV s) l (bareX s l) (bareP s l) = true := by
  obtain ⟨h1, h2⟩ := chkL_ok.1 hl
  rw [List.all_eq_true] at h2
  unfold checkBareB
  rw [pub_valid hs, decide_eq_true (show l.length = (bareX s l).length by unfold bareX; simp), decide_eq_true (show l.length = (bareP s l).length by unfold bareP; simp), decide_eq_true hl, decide_eq_true (chkL_bareX hl)]
  simp only [Bool.true_and]
  refine bareAll_ok (by unfold bareX; simp) (by unfold bareP; simp) (fun z => ?_)
  obtain ⟨ha, hb⟩ := good_at (h2 z.ltr (List.getElem_mem z.hi)) z.k
  have gx : (bareX s l).getD z.i zeroL = z.ltr.by (bareF s) := by
    unfold bareX
    rw [List.getD_eq_getElem?_getD, List.getElem?_map, List.getElem?_eq_getElem z.hi]; rfl
  have gp : (bareP s l).getD z.i zeroL = z.ltr.by (prfF s) := by
    unfold bareP
    rw [List.getD_eq_getElem?_getD, List.getElem?_map, List.getElem?_eq_getElem z.hi]; rfl
  unfold bareZ
  rw [gx, gp]
  exact bareAt_ok hs z.k ha hb (Ltr.by_at _ _ _) (Ltr.by_at _ _ _)
end Go.Proofs.YthgppaiiapkdjaaDoor

/-
  epochs.Rest, walked.
-/
namespace Go.Proofs.YthgppaiiapkdjaaDoor
open Go.RowKit

/-- Products of keys, and of those that follow. -/
def restL : List Int → List Int
  | [] => [1]
  | k :: l => mulV k ((restL l).headD 1) :: restL l
theorem restL_length : ∀ l : List Int, (restL l).length = l.length + 1
  | [] => rfl
  | _ :: l => by simp [restL, restL_length l]
theorem restL_valid : ∀ {l : List Int}, (∀ k ∈ l, validB k = true) → ∀ x ∈ restL l, validB x = true
  | [], _, x, hx => by obtain rfl : x = 1 := by simpa [restL] using hx
                       exact valid_one
  | k :: l, h, x, hx => by
    have ih := restL_valid (l := l) (fun y hy => h y (List.mem_cons_of_mem _ hy))
    have hh : validB ((restL l).headD 1) = true := by
      have hl := restL_length l
      cases hr : restL l with
      | nil => rw [hr] at hl; simp at hl
      | cons a r => exact ih a (by rw [hr]; simp)
    rcases List.mem_cons.1 hx with rfl | hx
    · exact valid_mulV (h k (by simp)) hh
    · exact ih x hx
theorem restL_head {l : List Int} : ∃ r, (restL l)[0]? = some r ∧ r = (restL l).headD 1 := by
  have hl := restL_length l
  cases hr : restL l with
  | nil => rw [hr] at hl; simp at hl
  | cons a r => exact ⟨a, rfl, rfl⟩
theorem made_ints (n : Nat) : madeCells (Value.int .i64 0).cells (n * 1) = (ints (List.replicate n 0)).toArray := by
  apply Array.ext
  · rw [size_madeCells]; simp [ints]
  · intro i h1 h2
    simp only [madeCells, Array.getElem_map, Array.getElem_range, ints, List.map_replicate, List.getElem_toArray, List.getElem_replicate]
    show (#[Value.int .i64 0] : Array Value)[i % 1]! = _
    rw [Nat.mod_one]; rfl
theorem make_ints (n : Nat) (hn : n ≤ 100000) (w : World) : (Instr.makeSlice 25 (.int .i64 ((n : Int) + 1)) (.int .i64 ((n : Int) + 1))).run Tryd.prog w = .ok (.slice (some ⟨w.heap.size, 0, none⟩) (n + 1) (n + 1)) (w.alloc (.cells (ints (List.replicate (n + 1) 0)).toArray 3)) := by
  have hinf : (Tryd.prog.info? 3).map (fun i => (i.zero, i.size, i.bytes)) = some (some (.int .i64 0), 1, 8) := by kernel_rfl
  obtain ⟨i0, hi, hz0, hz1, hz2⟩ := info_parts hinf
  have := run_makeSlice (w := w) (P := Tryd.prog) 25 3 i0 (.int .i64 0) Tryd.underlying25 hi hz0 .i64 .i64 ((n : Int) + 1) ((n : Int) + 1) (by omega) (Int.le_refl _) (by rw [hz1]; omega) (by rw [hz2]; omega) (by omega)
  have e : ((n : Int) + 1).toNat = n + 1 := by omega
  rw [e, hz1, made_ints] at this
  exact this
/-- What has been reckoned from place k on. -/
theorem ints_set {l : List Int} {k : Nat} {x : Int} : (ints l).toArray.setIfInBounds k (.int .i64 x) = (ints (l.set k x)).toArray := by
  rw [List.setIfInBounds_toArray]
  unfold ints
  rw [List.map_set]
theorem rest_set {l : List Int} {k : Nat} (hk : k < l.length) : (List.replicate (k + 1) 0 ++ restL (l.drop (k + 1))).set k (mulV l[k] ((restL (l.drop (k + 1))).headD 1)) = List.replicate k 0 ++ restL (l.drop k) := by
  rw [List.drop_eq_getElem_cons hk, List.set_append_left _ _ (by simp)]
  show _ = List.replicate k 0 ++ (mulV l[k] _ :: _)
  rw [show List.replicate (k + 1) (0 : Int) = List.replicate k 0 ++ [0] from List.replicate_succ', List.set_append_right _ _ (by simp)]
  simp
theorem rest_first {l : List Int} : (List.replicate (l.length + 1) (0 : Int)).set l.length 1 = List.replicate l.length 0 ++ restL (l.drop l.length) := by
  rw [List.drop_length, show List.replicate (l.length + 1) (0 : Int) = List.replicate l.length 0 ++ [0] from List.replicate_succ', List.set_append_right _ _ (by simp)]
  simp [restL]
def RetRest (l : List Int) (w : World) (r : Ending) (w' : World) : Prop :=
  Below w.heap.size w w' ∧ ((∀ k ∈ l, validB k = true) → ∃ g, r = .returned (.tuple #[.slice (some ⟨g, 0, none⟩) (l.length + 1) (l.length + 1), .int .i64 0]) ∧ w.heap.size ≤ g ∧ Blk w' g 3 (ints (restL l)).toArray) ∧
  ((¬ ∀ k ∈ l, validB k = true) → r = .returned (.tuple #[.slice none 0 0, .int .i64 90]))

set_option maxRecDepth 100000 in
set_option maxHeartbeats 4000000 in
theorem ep_rest (A : Option Addr) (n c : Nat) (l : List Int) (W : World) (hA : Rd W W.heap.size 1 A n (ints l)) (hn : n ≤ 24) :
    Calls Tryd.prog 22 #[.slice A n c] W (RetRest l W) := by
  obtain rfl : l.length = n := by have := hA.1; rw [ints_length, Nat.mul_one] at this; exact this
  have hmk := make_ints l.length (by omega)
  go_enter Tryd.func22, Tryd.ntmps22
  go_upto_region 4 with fail
  have BG := Blk.new W 3 (ints (List.replicate (l.length + 1) 0)).toArray _ rfl
  have hb := bAl (bRefl W) (.cells (ints (List.replicate (l.length + 1) 0)).toArray 3)
  generalize W.alloc (.cells (ints (List.replicate (l.length + 1) 0)).toArray 3) = w1 at *
  have x0 := (BG.cell l.length).trans (show (ints (List.replicate (l.length + 1) 0)).toArray[l.length]? = some (.int .i64 0) by simp [ints])
  have z0 := BG.frozen l.length
  have B2 := BG.set_ l.length (.int .i64 1)
  rw [ints_set, rest_first] at B2
  have h2 := bSet hb (p := ⟨W.heap.size, l.length, none⟩) (Nat.le_refl _) (.int .i64 1)
  clear BG hmk
  go_upto_region 5 with fail
  clear x0 z0 hb
  generalize w1.setCell ⟨W.heap.size, l.length, none⟩ (.int .i64 1) = w2 at *
  go_wp2_with fail
  go_loopw [4, 2, 3] (fun i v2 v3 wr => (v2 = .slice (some ⟨W.heap.size, 0, none⟩) (l.length + 1) (l.length + 1) ∧ v3 = .int .i64 0) ∧ Below W.heap.size W wr ∧ ((∃ k : Nat, k < l.length ∧ i = .int .i64 k ∧ Hid (∀ x ∈ l.drop (k + 1), validB x = true) ∧ Blk wr W.heap.size 3 (ints (List.replicate (k + 1) 0 ++ restL (l.drop (k + 1)))).toArray) ∨
    (i = .int .i64 (-1) ∧ Hid (∀ x ∈ l, validB x = true) ∧ Blk wr W.heap.size 3 (ints (restL l)).toArray))) (fun i _ _ _ => (intOf i + 1).toNat)
  case atStart =>
    refine ⟨⟨rfl, rfl⟩, h2, ?_⟩
    rcases Nat.eq_zero_or_pos l.length with h0 | h0
    · have hl : l = [] := List.eq_nil_of_length_eq_zero h0
      right
      refine ⟨by rw [h0]; rfl, Lib.hid (by rw [hl]; simp), ?_⟩
      rw [h0] at B2
      simpa using B2
    · left
      refine ⟨l.length - 1, by omega, by rw [show ((l.length : Int) - 1) = ((l.length - 1 : Nat) : Int) from by omega], Lib.hid ?_, ?_⟩
      · rw [show l.length - 1 + 1 = l.length from by omega, List.drop_length]; simp
      · rw [show l.length - 1 + 1 = l.length from by omega]; exact B2
  case round =>
    clear B2 h2
    obtain ⟨⟨rfl, rfl⟩, hb, (⟨k, hk, rfl, hv, BG⟩ | ⟨rfl, hv, BG⟩)⟩ := hrel
    · obtain ⟨x, hx⟩ : ∃ x, Hid (l[k]? = some x) := ⟨_, Lib.hid (List.getElem?_eq_getElem hk)⟩
      obtain ⟨b, off, rfl, hbb, c0⟩ := Int_at (hA.below hb) hk hx.out
      obtain ⟨r, hr1, hr2⟩ := restL_head (l := l.drop (k + 1))
      have hrv : validB r = true := restL_valid hv.out r (List.mem_of_getElem? hr1)
      have x1 : wr.cell? ⟨W.heap.size, k + 1, none⟩ = some (.int .i64 r) := by
        rw [BG.cell]
        show (ints _).toArray[k + 1]? = _
        rw [List.getElem?_toArray]
        refine ints_at ?_
        rw [List.getElem?_append_right (by simp)]
        simpa using hr1
      have x0 : wr.cell? ⟨W.heap.size, k, none⟩ = some (.int .i64 0) := by
        rw [BG.cell]
        rw [List.getElem?_toArray]
        refine ints_at ?_
        rw [List.getElem?_append_left (by simp)]
        simp
      have z0 := BG.frozen k
      have hR2 := Lib.hid hr2
      have HR1 := Lib.hid hr1
      have HRV := Lib.hid hrv
      clear hr1 hr2 hrv
      have hsz := BG.lt
      have i0 : (0 : Int) ≤ (k : Int) := by omega
      have i1 : (k : Int) < (l.length : Int) := by omega
      have i2 : IntKind.i64.wrap ((k : Int) + 1) = (k : Int) + 1 := by rw [IntKind.wrap_i64]; omega
      have hE : mulE x r = if validB x = true then 0 else 90 := by unfold mulE; rw [HRV.out]; rfl
      have HE := Lib.hid hE
      clear hE
      cases hxv : validB x
      · have hbad : Hid (¬ ∀ k ∈ l, validB k = true) := fun h => by have := h x (List.mem_of_getElem? hx.out); rw [hxv] at this; cases this
        have q := group_mul x r wr.drew
        rw [HE.out, hxv] at q
        clear hxv HE
        go_upto_region 8 with fail
        go_region_with ((go_at_call 30; (with_reducible refine q.mono ?_); rintro e w' ⟨rfl, rfl⟩))
        all_goals
          go_wp2_with fail
          go_ret2
          exact ⟨by first | exact bDr (bSet hb (Nat.le_refl _) _) | exact bSet (bDr hb) (Nat.le_refl _) _, fun h => absurd h hbad.out, fun _ => rfl⟩
      · have hv2 : Hid (∀ x ∈ l.drop k, validB x = true) := by
          intro y hy
          obtain ⟨_, he⟩ := List.getElem?_eq_some_iff.1 hx.out
          rw [List.drop_eq_getElem_cons hk] at hy
          rcases List.mem_cons.1 hy with rfl | hy
          · rw [he]; exact hxv
          · exact hv.out y hy
        have B2 := BG.set_ k (.int .i64 (mulV x r))
        have hset : ((List.replicate (k + 1) 0 ++ restL (l.drop (k + 1))).set k (mulV x r)) = List.replicate k 0 ++ restL (l.drop k) := by
          have := rest_set hk
          obtain ⟨_, he⟩ := List.getElem?_eq_some_iff.1 hx.out
          rw [he, ← hR2.out] at this
          exact this
        rw [ints_set, hset] at B2
        have q := group_mul x r wr.drew
        rw [HE.out, hxv] at q
        clear hxv HE hset
        have hb2 := bSet hb (p := ⟨W.heap.size, k, none⟩) (Nat.le_refl _) (.int .i64 (mulV x r))
        go_upto_region 8 with fail
        go_region_with ((go_at_call 30; (with_reducible refine q.mono ?_); rintro e w' ⟨rfl, rfl⟩))
        all_goals
          go_wp2_with fail
          refine ⟨⟨⟨rfl, rfl⟩, bDr hb2, ?_⟩, by simp [intOf]⟩
          rcases Nat.eq_zero_or_pos k with h0 | h0
          · right
            subst h0
            exact ⟨rfl, Lib.hid (by have := hv2.out; simpa using this), by have := B2; simp at this; exact Blk.dr this⟩
          · left
            exact ⟨k - 1, by omega, by rw [show ((k : Int) - 1) = ((k - 1 : Nat) : Int) from by omega], Lib.hid (by rw [show k - 1 + 1 = k from by omega]; exact hv2.out), by rw [show k - 1 + 1 = k from by omega]; exact Blk.dr B2⟩
    · go_wp2_with fail
      go_ret2
      exact ⟨hb, fun _ => ⟨W.heap.size, rfl, Nat.le_refl _, BG⟩, fun h => absurd hv.out h⟩
end Go.Proofs.YthgppaiiapkdjaaDoor
