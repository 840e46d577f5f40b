/-
  elgamal.Check, walked.
-/
import Derived.Test.YtoeobcmmafncmaaDoorMas
import Derived.RangeFuncCalls
import Derived.Test.YtoeobcmmafncmaaDoorMap
namespace Go.Proofs.YtoeobcmmafncmaaDoor
open Go.RowKit
attribute [local go_sem] Oper.semAt_some

/-- A letter: three ciphers. -/
structure Ltr where
  a0 : Int
  b0 : Int
  a1 : Int
  b1 : Int
  a2 : Int
  b2 : Int
def Ltr.cells (x : Ltr) : Array Value := #[.int .i64 x.a0, .int .i64 x.b0, .int .i64 x.a1, .int .i64 x.b1, .int .i64 x.a2, .int .i64 x.b2]
def Ltr.goodAt (x : Ltr) (k : Fin 3) : Bool := match k with | 0 => validB x.a0 && validB x.b0 | 1 => validB x.a1 && validB x.b1 | 2 => validB x.a2 && validB x.b2
def Ltr.good (x : Ltr) : Bool := validB x.a0 && validB x.b0 && (validB x.a1 && validB x.b1) && (validB x.a2 && validB x.b2)
theorem Ltr.at_ (x : Ltr) (k : Fin 3) : ∃ a b, x.cells[2 * k.val]? = some (.int .i64 a) ∧ x.cells[2 * k.val + 1]? = some (.int .i64 b) ∧ x.goodAt k = (validB a && validB b) := by
  match k with
  | 0 => exact ⟨_, _, rfl, rfl, rfl⟩
  | 1 => exact ⟨_, _, rfl, rfl, rfl⟩
  | 2 => exact ⟨_, _, rfl, rfl, rfl⟩
theorem Ltr.good_eq (x : Ltr) : x.good = (x.goodAt 0 && x.goodAt 1 && x.goodAt 2) := rfl
theorem Ltr.good_of (x : Ltr) (h : ∀ k, x.goodAt k = true) : x.good = true := by rw [x.good_eq, h, h, h]; rfl
theorem Ltr.bad_of (x : Ltr) (k : Fin 3) (h : x.goodAt k = false) : x.good = false := by
  rw [x.good_eq]
  match k, h with
  | 0, h => rw [h]; rfl
  | 1, h => rw [h]; simp
  | 2, h => rw [h]; simp
def Ltr.err (x : Ltr) : Int := if x.good = true then 0 else 100

set_option maxRecDepth 100000 in
set_option maxHeartbeats 2000000 in
theorem el_check (x : Ltr) (W : World) :
    Calls Tryd.prog 45 #[.agg #[.int .i64 x.a0, .int .i64 x.b0, .int .i64 x.a1, .int .i64 x.b1, .int .i64 x.a2, .int .i64 x.b2]] W (Ret (.int .i64 x.err) W) := by
  refine calls_of_wp_dm Tryd.func45 rfl ?_
  simp only [Tryd.ntmps45, List.size_toArray, List.length_cons, List.length_nil, Nat.reduceAdd, Nat.reduceSub, Array.replicate_succ, Array.replicate_zero, List.push_toArray, List.append_toArray, List.nil_append, List.cons_append]
  go_wp2_with fail
  refine (ciphers_any _ _).mono ?_
  rintro e w' ⟨rfl, rfl⟩
  go_wp2_with fail
  have BL : Blk (((W.alloc (.cells x.cells 54)).alloc (.cells #[.int .i64 0] 35)).alloc (.cells #[.pointer (some ⟨W.heap.size, 0, none⟩)] 117)) W.heap.size 54 x.cells := ((Blk.new W _ _ _ rfl).alloc _).alloc _
  have BE : Blk (((W.alloc (.cells x.cells 54)).alloc (.cells #[.int .i64 0] 35)).alloc (.cells #[.pointer (some ⟨W.heap.size, 0, none⟩)] 117)) (W.heap.size + 1) 35 #[.int .i64 0] := (Blk.new _ _ _ _ (by simp)).alloc _
  have BP : Blk (((W.alloc (.cells x.cells 54)).alloc (.cells #[.int .i64 0] 35)).alloc (.cells #[.pointer (some ⟨W.heap.size, 0, none⟩)] 117)) (W.heap.size + 1 + 1) 117 #[.pointer (some ⟨W.heap.size, 0, none⟩)] := Blk.new _ _ _ _ (by simp)
  have hb : Below W.heap.size W (((W.alloc (.cells x.cells 54)).alloc (.cells #[.int .i64 0] 35)).alloc (.cells #[.pointer (some ⟨W.heap.size, 0, none⟩)] 117)) := bAl (bAl (bAl (bRefl W) _) _) _
  have hw : (((W.alloc (.cells x.cells 54)).alloc (.cells #[.int .i64 0] 35)).alloc (.cells #[.pointer (some ⟨W.heap.size, 0, none⟩)] 117)).heap.size = W.heap.size + 1 + 1 + 1 := by simp
  change Code.wp _ _ _ _ (((W.alloc (.cells x.cells 54)).alloc (.cells #[.int .i64 0] 35)).alloc (.cells #[.pointer (some ⟨W.heap.size, 0, none⟩)] 117))
  generalize (((W.alloc (.cells x.cells 54)).alloc (.cells #[.int .i64 0] 35)).alloc (.cells #[.pointer (some ⟨W.heap.size, 0, none⟩)] 117)) = w3 at *
  refine wp_rangeFuncT 2 (gf := 74) (lb := #[.pointer (some ⟨W.heap.size + 1 + 1, 0, none⟩)]) rfl (enters_of Tryd.func74 (by kernel_rfl) rfl)
    (S := fun ys => ys = [0, 1, 2]) (Sp := fun pre => pre.length ≤ 3) (N := 3) (w0 := w3)
    (ciphers_stops (W.heap.size + 1 + 1) W.heap.size (fun k => k = W.heap.size + 1 + 1) rfl w3 BP)
    (fun k hk => hk.elim)
    Keeps.trans (Keeps.put (fun k hk => by omega)) (bRefl _) (fun _ => rfl)
    (fun pre W' => Blk W' W.heap.size 54 x.cells ∧ Blk W' (W.heap.size + 1) 35 #[.int .i64 0] ∧ Below W.heap.size W W' ∧ Hid (∀ k ∈ pre, x.goodAt k = true))
    (fun k a₁ pre W' => (Blk W' W.heap.size 54 x.cells ∧ Blk W' (W.heap.size + 1) 35 #[.int .i64 0] ∧ Below W.heap.size W W' ∧ Hid (∀ k ∈ pre, x.goodAt k = true)) ∧ a₁ = { tmps := #[.agg #[.int .i64 x.a0, .int .i64 x.b0, .int .i64 x.a1, .int .i64 x.b1, .int .i64 x.a2, .int .i64 x.b2], .pointer (some ⟨W.heap.size, 0, none⟩), .pointer (some ⟨W.heap.size + 1, 0, none⟩), undef, .pointer (some ⟨W.heap.size, 2 * k.val, none⟩), .func (.func 74) #[] #[.pointer (some ⟨W.heap.size + 1 + 1, 0, none⟩)], .int .i64 (k.val : Nat), .pointer (some ⟨W.heap.size, 2 * k.val, none⟩), undef, undef, undef, undef, undef, undef, undef, undef, undef, undef, undef, undef, undef, undef], defers := [] })
    (fun c pre W' => c = .ret ∧ Blk W' (W.heap.size + 1) 35 #[.int .i64 100] ∧ Below W.heap.size W W' ∧ Hid (x.good = false))
    (fun pre A' B' row h hg hr => ⟨h.1.kept hg hr, h.2.1.kept hg hr, bGrown h.2.2.1 hg hb.size hr, h.2.2.2⟩)
    (fun k a pre A' B' row h hg hr => ⟨⟨h.1.1.kept hg hr, h.1.2.1.kept hg hr, bGrown h.1.2.2.1 hg hb.size hr, h.1.2.2.2⟩, h.2⟩)
    (fun c pre A' B' row h hg hr => ⟨h.1, h.2.1.kept hg hr, bGrown h.2.2.1 hg hb.size hr, h.2.2.2⟩)
    (fun _ _ _ _ _ ht => ht.elim)
    (fun _ _ _ _ _ _ ht => ht.elim)
    ⟨BL, BE, hb, Lib.hid (fun k hk => by cases hk)⟩ ?assign ?body ?done ?stop
  case assign =>
    rintro L pre k Wc h hlen
    dsimp only [cphE]
    gi_wp2
    exact ⟨KeepsOthers.refl _, Keeps.refl _ _, h, trivial⟩
  case body =>
    rintro L pre k a₁ Wc ⟨⟨hL, hE, hbc, hg⟩, rfl⟩ hlen
    obtain ⟨a, b, ha, hb', hgd⟩ := x.at_ k
    have d1 : Wc.cell? ⟨W.heap.size, 2 * k.val, none⟩ = some (.int .i64 a) := (hL.cell _).trans ha
    have d2 : Wc.cell? ⟨W.heap.size, 2 * k.val + 1, none⟩ = some (.int .i64 b) := (hL.cell _).trans hb'
    have z1 : Wc.cell? ⟨W.heap.size + 1, 0, none⟩ = some (.int .i64 0) := hE.cell 0
    have z2 := hE.frozen 0
    have hGd := Lib.hid hgd
    clear ha hb' hgd
    have q1 := group_valid a Wc
    have q2 := group_valid b Wc
    cases h1 : validB a
    · have hbad : Hid (x.good = false) := by show _ = _; exact x.bad_of k (by rw [hGd.out, h1]; rfl)
      rw [h1] at q1
      clear h1 q2
      gi_wp2
      refine ⟨trivial, ?_⟩
      (with_reducible refine (inR L q1).mono ?_)
      rintro e w' ⟨rfl, rfl⟩
      clear q1
      gi_wp2
      refine ⟨trivial, ?_⟩
      gi_wp2
      exact ⟨KeepsOthers.setCell _ _ _, rfl, hE.set_ 0 _, bSet hbc (by show W.heap.size ≤ W.heap.size + 1; omega) _, hbad⟩
    · cases h2 : validB b
      · have hbad : Hid (x.good = false) := by show _ = _; exact x.bad_of k (by rw [hGd.out, h1, h2]; rfl)
        rw [h1] at q1
        rw [h2] at q2
        clear h1 h2
        gi_wp2
        refine ⟨trivial, ?_⟩
        (with_reducible refine (inR L q1).mono ?_)
        rintro e w' ⟨rfl, rfl⟩
        clear q1
        gi_wp2
        refine ⟨trivial, ?_⟩
        (with_reducible refine (inR L q2).mono ?_)
        rintro e w' ⟨rfl, rfl⟩
        clear q2
        gi_wp2
        exact ⟨KeepsOthers.setCell _ _ _, rfl, hE.set_ 0 _, bSet hbc (by show W.heap.size ≤ W.heap.size + 1; omega) _, hbad⟩
      · have hok : Hid (∀ j ∈ pre ++ [k], x.goodAt j = true) := by
          intro j hj
          rcases List.mem_append.1 hj with hj | hj
          · exact hg.out j hj
          · obtain rfl : j = k := by simpa using hj
            rw [hGd.out, h1, h2]; rfl
        rw [h1] at q1
        rw [h2] at q2
        clear h1 h2
        gi_wp2
        refine ⟨trivial, ?_⟩
        (with_reducible refine (inR L q1).mono ?_)
        rintro e w' ⟨rfl, rfl⟩
        clear q1
        gi_wp2
        refine ⟨trivial, ?_⟩
        (with_reducible refine (inR L q2).mono ?_)
        rintro e w' ⟨rfl, rfl⟩
        clear q2
        gi_wp2
        exact ⟨KeepsOthers.refl _, Keeps.refl _ _, hL, hE, hbc, hok⟩
  case done =>
    rintro D xs Wc hD hp ⟨hL, hE, hbc, hg⟩ hd
    have herr : Hid (x.err = 0) := by
      show _ = _
      have : x.good = true := x.good_of (fun k => hg.out k (by subst hp; match k with | 0 => simp | 1 => simp | 2 => simp))
      unfold Ltr.err; rw [this]; rfl
    have z1 : Wc.cell? ⟨W.heap.size + 1, 0, none⟩ = some (.int .i64 0) := hE.cell 0
    have z2 := hE.frozen 0
    have hD' : W.heap.size ≤ D := by omega
    have hdd : (Wc.setCell ⟨W.heap.size + 1, 0, none⟩ (.int .i64 0)).heap[D]? = some (.deferred (some [])) := by
      rw [Below.heap_setCell _ _ _ _ (by intro e; subst e; unfold Blk at hE; rw [hE] at hd; cases hd)]; exact hd
    have hE2 := (hE.set_ 0 (.int .i64 0)).put (o' := .deferred none) hdd rfl
    go_wp2_with fail
    refine leavesM_mark (by simp) hdd ?_
    have e1 := hE2.cell 0
    exact ⟨.int .i64 0, by simp [results, Tryd.results45, go_sem, e1], ret_int herr.out.symm, bPut (bSet hbc (by show W.heap.size ≤ W.heap.size + 1; omega) _) hD' _⟩
  case stop =>
    rintro D c' pre Wc hD _ ⟨rfl, hE, hbc, hbad⟩ hd
    have herr : Hid (x.err = 100) := by show _ = _; unfold Ltr.err; rw [hbad.out]; rfl
    have hD' : W.heap.size ≤ D := by omega
    have hE2 := hE.put (o' := .deferred none) hd rfl
    go_wp2_with fail
    refine leavesM_mark (by simp) hd ?_
    have e1 := hE2.cell 0
    exact ⟨.int .i64 100, by simp [results, Tryd.results45, go_sem, e1], ret_int herr.out.symm, bPut hbc hD' _⟩
end Go.Proofs.YtoeobcmmafncmaaDoor

/-
  The group's algebra, in plain words: products and powers of elements. No program here.
-/
namespace Go.Proofs.YtoeobcmmafncmaaDoor
open Go.RowKit

/-- An element, as a natural number. -/
def vN (a : Nat) : Prop := 0 < a ∧ a < Pn ∧ powP a Qn = 1
theorem vN_of {a : Int} (h : validB a = true) : ∃ n : Nat, a = n ∧ vN n := by
  obtain ⟨h1, h2, h3⟩ := (validB_iff a).1 h
  obtain ⟨n, rfl⟩ := Int.eq_ofNat_of_zero_le (show 0 ≤ a by omega)
  exact ⟨n, rfl, by omega, by unfold Pn; omega, by simpa using h3⟩
theorem vN_to {n : Nat} (h : vN n) : validB (n : Int) = true := by
  obtain ⟨h1, h2, h3⟩ := h
  unfold Pn at h2
  exact (validB_iff _).2 ⟨by omega, by omega, by simpa using h3⟩
theorem powP_cong {a m n : Nat} (h : vN a) (e : m % Qn = n % Qn) : powP a m = powP a n := by
  have key : ∀ k, powP a k = powP a (k % Qn) := fun k => by
    conv => lhs; rw [← Nat.div_add_mod k Qn]
    rw [powP_add, powP_mul, h.2.2, one_powP, Nat.one_mul]
    exact Nat.mod_eq_of_lt (powP_lt _ _)
  rw [key m, key n, e]
theorem expN_mod (n : Int) : expN n % Qn = expN n := Nat.mod_eq_of_lt (expN_lt n)
theorem expN_add (m n : Int) : expN (m + n) % Qn = (expN m + expN n) % Qn := by
  unfold expN Qn
  omega
theorem expN_mul (m n : Int) : expN (m * n) % Qn = (expN m * expN n) % Qn := by
  unfold expN Qn
  have h : ((m * n % 1073741789).toNat : Int) % 1073741789 = ((m % 1073741789).toNat * (n % 1073741789).toNat : Nat) % 1073741789 := by
    rw [Int.natCast_mul, Int.toNat_of_nonneg (Int.emod_nonneg _ (by omega)), Int.toNat_of_nonneg (Int.emod_nonneg _ (by omega)), Int.toNat_of_nonneg (Int.emod_nonneg _ (by omega)), Int.emod_emod_of_dvd _ (Int.dvd_refl _), Int.mul_emod]
  omega
theorem powV_nat {a : Nat} (h : vN a) (n : Int) : powV (a : Int) n = (powP a (expN n) : Nat) := by
  unfold powV; rw [if_pos (vN_to h), Int.toNat_natCast]
theorem zero_powP {n : Nat} (h : 0 < n) : powP 0 n = 0 := by unfold powP; rw [Nat.zero_pow h]; rfl
theorem emm (a b : Int) : a % 2147483579 * b % 2147483579 = a * b % 2147483579 := by rw [Int.mul_emod, Int.emod_emod_of_dvd _ (Int.dvd_refl _), ← Int.mul_emod]
theorem vN_pow {a : Nat} (h : vN a) (n : Nat) : vN (powP a n) := by
  refine ⟨?_, powP_lt _ _, ?_⟩
  · rcases Nat.eq_zero_or_pos (powP a n) with h0 | h0
    · have h1 : powP (powP a n) Qn = 1 := by rw [← powP_mul, Nat.mul_comm, powP_mul, h.2.2, one_powP]
      rw [h0] at h1
      have : powP 0 Qn = 0 := zero_powP (by decide)
      omega
    · exact h0
  · rw [← powP_mul, Nat.mul_comm, powP_mul, h.2.2, one_powP]
theorem vN_mul {a b : Nat} (ha : vN a) (hb : vN b) : vN (a * b % Pn) := by
  have h1 : powP (a * b % Pn) Qn = 1 := by rw [powP_times, ha.2.2, hb.2.2]; rfl
  refine ⟨?_, Nat.mod_lt _ (by decide), h1⟩
  rcases Nat.eq_zero_or_pos (a * b % Pn) with h0 | h0
  · rw [h0] at h1
    have : powP 0 Qn = 0 := zero_powP (by decide)
    omega
  · exact h0
theorem Pn_int : ((Pn : Nat) : Int) = 2147483579 := rfl

/-- Powers and products of elements, over the whole numbers. -/
theorem valid_pow {a : Int} (h : validB a = true) (n : Int) : validB (powV a n) = true := by
  obtain ⟨x, rfl, hx⟩ := vN_of h
  rw [powV_nat hx]; exact vN_to (vN_pow hx _)
theorem valid_mul {a b : Int} (ha : validB a = true) (hb : validB b = true) : validB (a * b % 2147483579) = true := by
  obtain ⟨x, rfl, hx⟩ := vN_of ha
  obtain ⟨y, rfl, hy⟩ := vN_of hb
  rw [← Pn_int, ← Int.natCast_mul, ← Int.natCast_emod]
  exact vN_to (vN_mul hx hy)
theorem powV_add {a : Int} (h : validB a = true) (m n : Int) : powV a (m + n) = powV a m * powV a n % 2147483579 := by
  obtain ⟨x, rfl, hx⟩ := vN_of h
  rw [powV_nat hx, powV_nat hx, powV_nat hx, powP_cong hx (expN_add m n), powP_add]
  simp [Pn]
theorem powV_mul {a : Int} (h : validB a = true) (m n : Int) : powV (powV a m) n = powV a (m * n) := by
  obtain ⟨x, rfl, hx⟩ := vN_of h
  rw [powV_nat hx, powV_nat hx, powV_nat (vN_pow hx _), powP_cong hx (expN_mul m n), powP_mul]
theorem powV_cong {a : Int} {m n : Int} (e : m % 1073741789 = n % 1073741789) : powV a m = powV a n := by
  unfold powV expN; rw [e]
theorem powV_times {a b : Int} (ha : validB a = true) (hb : validB b = true) (n : Int) : powV (a * b % 2147483579) n = powV a n * powV b n % 2147483579 := by
  obtain ⟨x, rfl, hx⟩ := vN_of ha
  obtain ⟨y, rfl, hy⟩ := vN_of hb
  have : ((x : Int) * y % 2147483579) = ((x * y % Pn : Nat) : Int) := by simp [Pn]
  rw [this, powV_nat (vN_mul hx hy), powV_nat hx, powV_nat hy, powP_times]
  simp [Pn]
theorem powV_zero {a : Int} (h : validB a = true) : powV a 0 = 1 := by
  obtain ⟨x, rfl, hx⟩ := vN_of h
  rw [powV_nat hx]; rfl
theorem powV_one {a : Int} (h : validB a = true) : powV a 1 = a := by
  obtain ⟨x, rfl, hx⟩ := vN_of h
  rw [powV_nat hx]
  have : expN 1 = 1 := rfl
  rw [this, powP_one x hx.2.1]
theorem powV_inv {a : Int} (h : validB a = true) : a * powV a (-1) % 2147483579 = 1 := by
  have h1 := powV_add h 1 (-1)
  rw [powV_one h] at h1
  rw [← h1]; exact powV_zero h
theorem valid_one : validB 1 = true := by
  rw [validB_iff]; exact ⟨by omega, by omega, one_powP _⟩
theorem valid_four : validB 4 = true := by
  rw [validB_iff]
  refine ⟨by omega, by omega, ?_⟩
  show powP 4 Qn = 1
  rw [powP_fast (by decide)]; decide +kernel
theorem mulV_eq {a b : Int} (ha : validB a = true) (hb : validB b = true) : mulV a b = a * b % 2147483579 := (mulV_yes ha hb).1
theorem valid_mulV {a b : Int} (ha : validB a = true) (hb : validB b = true) : validB (mulV a b) = true := by rw [mulV_eq ha hb]; exact valid_mul ha hb
theorem modP {a : Int} (h : validB a = true) : a % 2147483579 = a := by
  obtain ⟨h1, h2⟩ := validB_rng h
  exact Int.emod_eq_of_lt (by omega) h2
theorem timesL_two (a b : Int) : timesL [a, b] = a * b % 2147483579 := by
  show 1 * a % 2147483579 * b % 2147483579 = _
  rw [Int.one_mul, emm]
theorem mulL_two {a b : Int} (ha : validB a = true) (hb : validB b = true) : mulL [a, b] = a * b % 2147483579 := by
  unfold mulL
  simp only [List.foldl]
  rw [mulV_eq valid_one ha, Int.one_mul, modP ha, mulV_eq ha hb]
/-- What one has multiplied, can be taken off. -/
theorem cancel_mul {a x y : Int} (ha : validB a = true) (hx : validB x = true) (hy : validB y = true) (h : x * a % 2147483579 = y * a % 2147483579) : x = y := by
  have h1 : (x * a % 2147483579) * powV a (-1) % 2147483579 = (y * a % 2147483579) * powV a (-1) % 2147483579 := by rw [h]
  have key : ∀ z, (z * a % 2147483579) * powV a (-1) % 2147483579 = z % 2147483579 := fun z => by
    rw [emm, Int.mul_assoc, Int.mul_emod, powV_inv ha, Int.mul_one, Int.emod_emod_of_dvd _ (Int.dvd_refl _)]
  rw [key, key, modP hx, modP hy] at h1
  exact h1
end Go.Proofs.YtoeobcmmafncmaaDoor
