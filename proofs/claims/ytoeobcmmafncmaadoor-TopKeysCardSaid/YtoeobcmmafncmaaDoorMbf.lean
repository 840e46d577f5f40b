/-
  Shares in the program's numbers: Horner's rule, the weights, and what is recovered. No program here.
-/
import Derived.Test.YtoeobcmmafncmaaDoorMbe
import Derived.Test.YtoeobcmmafncmaaDoorMan
import Derived.Test.YtoeobcmmafncmaaDoorMaj
import Derived.Test.YtoeobcmmafncmaaDoorMaf
namespace Go.Proofs.YtoeobcmmafncmaaDoor

def toF (n : Nat) : Fq := ⟨n % Qn, Nat.mod_lt _ (by decide)⟩
theorem toF_val (n : Nat) : (toF n).val = n % Qn := rfl
theorem toF_add (a b : Nat) : toF (a + b) = toF a + toF b := by
  apply Fin.ext; rw [Fin.val_add, toF_val, toF_val, toF_val]
  show (a + b) % Qn = (a % Qn + b % Qn) % Qn
  rw [← Nat.add_mod]
theorem toF_mul (a b : Nat) : toF (a * b) = toF a * toF b := by
  apply Fin.ext; rw [Fin.val_mul, toF_val, toF_val, toF_val]
  show (a * b) % Qn = (a % Qn * (b % Qn)) % Qn
  rw [← Nat.mul_mod]
theorem toF_mod (a : Nat) : toF (a % Qn) = toF a := by apply Fin.ext; rw [toF_val, toF_val, Nat.mod_mod]
theorem toF_inj {a b : Nat} (ha : a < Qn) (hb : b < Qn) (h : toF a = toF b) : a = b := by
  have := congrArg Fin.val h
  rw [toF_val, toF_val, Nat.mod_eq_of_lt ha, Nat.mod_eq_of_lt hb] at this
  exact this
theorem toF_zero : toF 0 = 0 := rfl
theorem toF_one : toF 1 = 1 := by apply Fin.ext; rw [toF_val]; decide
/-- A number modulo Q. -/
def modQ (n : Int) : Nat := (n % 1073741789).toNat
def horN (x : Nat) : List Int → Nat
  | [] => 0
  | m :: r => (horN x r + modQ m) * x % Qn
def polN (secret : Nat) (more : List Int) (x : Nat) : Nat := (horN x more + secret) % Qn
theorem hor_ev (x : Nat) : ∀ more : List Int, toF (horN x more) = evF (more.map fun m => toF (modQ m)) (toF x) * toF x
  | [] => by show (0 : Fq) = 0 * toF x; grind
  | m :: r => by
    show toF ((horN x r + modQ m) * x % Qn) = (toF (modQ m) + evF (r.map fun m => toF (modQ m)) (toF x) * toF x) * toF x
    rw [toF_mod, toF_mul, toF_add, hor_ev x r]
    grind
theorem pol_ev (s : Nat) (more : List Int) (x : Nat) : toF (polN s more x) = evF (toF s :: more.map fun m => toF (modQ m)) (toF x) := by
  unfold polN
  rw [toF_mod, toF_add, hor_ev]
  show _ = toF s + evF (more.map fun m => toF (modQ m)) (toF x) * toF x
  grind
theorem invF_one : invF 1 = 1 := by
  have h := invF_mul 1 (by decide)
  have e : (1 : Fq) * invF 1 = invF 1 := by grind
  rw [← e]; exact h
theorem invF_times (a b : Fq) : invF (a * b) = invF a * invF b := by
  apply Fin.ext
  rw [Fin.val_mul]
  show (a * b).val ^ expQ % Qn = (a.val ^ expQ % Qn) * (b.val ^ expQ % Qn) % Qn
  rw [Fin.val_mul, ← Nat.mul_mod, ← Nat.mul_pow]
  show (a.val * b.val % Qn) ^ expQ % Qn = _
  rw [← Nat.pow_mod]
/-- Above and below the line, point after point. -/
def upF (x : Fq) : List Fq → Fq
  | [] => 1
  | y :: S => (if y = x then 1 else y) * upF x S
def loF (x : Fq) : List Fq → Fq
  | [] => 1
  | y :: S => (if y = x then 1 else y - x) * loF x S
theorem wtF_parts (x : Fq) : ∀ S : List Fq, wtF invF x S = upF x S * invF (loF x S)
  | [] => by show (1 : Fq) = 1 * invF 1; rw [invF_one]; grind
  | y :: S => by
    show (if y = x then 1 else y * invF (y - x)) * wtF invF x S = ((if y = x then 1 else y) * upF x S) * invF ((if y = x then 1 else y - x) * loF x S)
    rw [wtF_parts x S, invF_times]
    split
    · rw [invF_one]; grind
    · grind
def abvN (x : Nat) : List Nat → Nat → Nat
  | [], a => a
  | t :: S, a => abvN x S (if t = x then a else a * t % Qn)
def belN (x : Nat) : List Nat → Nat → Nat
  | [], b => b
  | t :: S, b => belN x S (if t = x then b else b * modQ ((t : Int) - x) % Qn)
theorem modQ_sub {t x : Nat} : toF (modQ ((t : Int) - x)) = toF t - toF x := by
  have h : toF (modQ ((t : Int) - x)) + toF x = toF t := by
    rw [← toF_add]
    apply Fin.ext
    rw [toF_val, toF_val]
    unfold modQ Qn
    omega
  grind
theorem abv_up {x : Nat} (hx : x < Qn) : ∀ (S : List Nat) (a : Nat), (∀ t ∈ S, t < Qn) → toF (abvN x S a) = toF a * upF (toF x) (S.map toF)
  | [], a, _ => by show toF a = toF a * 1; grind
  | t :: S, a, h => by
    have ht := h t (by simp)
    show toF (abvN x S (if t = x then a else a * t % Qn)) = toF a * ((if toF t = toF x then 1 else toF t) * upF (toF x) (S.map toF))
    rw [abv_up hx S _ (fun y hy => h y (by simp [hy]))]
    by_cases e : t = x
    · rw [if_pos e, if_pos (by rw [e])]; grind
    · rw [if_neg e, if_neg (fun e2 => e (toF_inj ht hx e2)), toF_mod, toF_mul]; grind
theorem bel_lo {x : Nat} (hx : x < Qn) : ∀ (S : List Nat) (b : Nat), (∀ t ∈ S, t < Qn) → toF (belN x S b) = toF b * loF (toF x) (S.map toF)
  | [], b, _ => by show toF b = toF b * 1; grind
  | t :: S, b, h => by
    have ht := h t (by simp)
    show toF (belN x S (if t = x then b else b * modQ ((t : Int) - x) % Qn)) = toF b * ((if toF t = toF x then 1 else toF t - toF x) * loF (toF x) (S.map toF))
    rw [bel_lo hx S _ (fun y hy => h y (by simp [hy]))]
    by_cases e : t = x
    · rw [if_pos e, if_pos (by rw [e])]; grind
    · rw [if_neg e, if_neg (fun e2 => e (toF_inj ht hx e2)), toF_mod, toF_mul, modQ_sub]; grind
/-- What Recover reckons: shares as points and values; pw is the power that stands for the inverse. -/
def recN (pw : Nat → Nat) (S : List Nat) : List (Nat × Nat) → Nat → Nat
  | [], s => s
  | (x, v) :: R, s => recN pw S R ((s + abvN x S v * pw (belN x S 1)) % Qn)
theorem toF_inv (b : Nat) : toF (b ^ expQ % Qn) = invF (toF b) := by
  apply Fin.ext
  show b ^ expQ % Qn % Qn = (b % Qn) ^ expQ % Qn
  rw [Nat.mod_mod, ← Nat.pow_mod]
theorem rec_sum {pw : Nat → Nat} (hp : ∀ b, toF (pw b) = invF (toF b)) (S : List Nat) (hS : ∀ t ∈ S, t < Qn) (f : Fq → Fq) : ∀ (R : List (Nat × Nat)) (s : Nat), (∀ p ∈ R, p.1 < Qn ∧ toF p.2 = f (toF p.1)) → toF (recN pw S R s) = toF s + sumF invF f (S.map toF) (R.map fun p => toF p.1)
  | [], s, _ => by show toF s = toF s + 0; grind
  | (x, v) :: R, s, h => by
    obtain ⟨hx, hv⟩ := h (x, v) (by simp)
    have ih := rec_sum hp S hS f R ((s + abvN x S v * pw (belN x S 1)) % Qn) (fun p hp => h p (by simp [hp]))
    have e1 := abv_up hx S v hS
    have e2 := bel_lo hx S 1 hS
    have e3 := wtF_parts (toF x) (S.map toF)
    have e4 := hp (belN x S 1)
    rw [toF_mod, toF_add, toF_mul, e1, e4, e2, toF_one] at ih
    change toF v = f (toF x) at hv
    have e : (1 : Fq) * loF (toF x) (S.map toF) = loF (toF x) (S.map toF) := by grind
    rw [e, hv] at ih
    show toF (recN pw S R ((s + abvN x S v * pw (belN x S 1)) % Qn)) = toF s + (f (toF x) * wtF invF (toF x) (S.map toF) + sumF invF f (S.map toF) (R.map fun p => toF p.1))
    rw [ih, e3]
    generalize invF (loF (toF x) (S.map toF)) = g
    generalize sumF invF f (S.map toF) (R.map fun p => toF p.1) = t
    grind
/-- Enough shares say the secret. -/
theorem recover_is {secret : Nat} {more : List Int} {l : List (Nat × Nat)} (hs : secret < Qn) (hl : more.length < l.length) (hd : (l.map fun p => p.1).Nodup) (hx : ∀ p ∈ l, p.1 < Qn) (hv : ∀ p ∈ l, p.2 = polN secret more p.1) (hlt : recN (fun b => b ^ expQ % Qn) (l.map fun p => p.1) l 0 < Qn) :
    recN (fun b => b ^ expQ % Qn) (l.map fun p => p.1) l 0 = secret := by
  have hS : ∀ t ∈ (l.map fun p => p.1), t < Qn := fun t ht => by
    obtain ⟨p, hp, rfl⟩ := List.mem_map.1 ht
    exact hx p hp
  have h1 := rec_sum toF_inv (l.map fun p => p.1) hS (evF (toF secret :: more.map fun m => toF (modQ m))) l 0 (fun p hp => ⟨hx p hp, by rw [hv p hp, pol_ev]⟩)
  have hm : (l.map fun p => toF p.1) = (l.map fun p => p.1).map toF := by rw [List.map_map]; rfl
  have hd2 : ((l.map fun p => p.1).map toF).Nodup := by
    rw [List.Nodup, List.pairwise_map]
    exact List.Pairwise.imp_of_mem (fun ha hb hne e => hne (toF_inj (hS _ ha) (hS _ hb) e)) hd
  rw [hm, recover_ev _ _ (by simp; omega) hd2] at h1
  apply toF_inj hlt hs
  rw [h1]
  show toF 0 + (toF secret + evF (more.map fun m => toF (modQ m)) 0 * 0) = toF secret
  rw [toF_zero]
  grind
end Go.Proofs.YtoeobcmmafncmaaDoor

/-
  epochs: mod, power, polynomial, Deal; walked.
-/
namespace Go.Proofs.YtoeobcmmafncmaaDoor
open Go.RowKit

theorem modQ_eq (n : Int) : (n.tmod 1073741789 + 1073741789) % 1073741789 = (modQ n : Int) := by
  rw [tmod_emod]; unfold modQ; omega
theorem modQ_lt (n : Int) : modQ n < 1073741789 := by unfold modQ; omega
theorem ep_mod (n : Int) (W : World) : Calls Tryd.prog 19 #[.int .i64 n] W (Same (.int .i64 (modQ n : Nat)) W) := by
  have hm := Lib.hid (modQ_eq n)
  obtain ⟨t1, t2⟩ := tmod_q n
  have t3 : 0 ≤ n.tmod 1073741789 + 1073741789 := by omega
  go_enter Tryd.func19, Tryd.ntmps19
  go_wp2
  go_ret
  exact ⟨ret_int hm.out, rfl⟩

theorem pq_sq (a k : Nat) : (a * a % Qn) ^ k % Qn = a ^ (k + k) % Qn := by rw [← Nat.pow_mod, Nat.mul_pow, ← Nat.pow_add]
theorem pq_odd {c a n : Nat} (h : n % 2 = 1) : (c * a % Qn) * (a * a % Qn) ^ (n / 2) % Qn = c * a ^ n % Qn := by
  have e : n = n / 2 + n / 2 + 1 := by omega
  rw [Nat.mul_mod, pq_sq, Nat.mod_mod, ← Nat.mul_mod, Nat.mul_assoc, Nat.mul_comm a, ← Nat.pow_succ]
  exact congrArg (fun k => c * a ^ k % Qn) e.symm
theorem pq_even {c a n : Nat} (h : n % 2 = 0) : c * (a * a % Qn) ^ (n / 2) % Qn = c * a ^ n % Qn := by
  have e : n = n / 2 + n / 2 := by omega
  rw [Nat.mul_mod, pq_sq, ← Nat.mul_mod]
  exact congrArg (fun k => c * a ^ k % Qn) e.symm
theorem mul_q {a b : Nat} (ha : a < 1073741789) (hb : b < 1073741789) : a * b ≤ 1152921430000000000 := by
  have h : a * b ≤ 1073741788 * 1073741788 := Nat.mul_le_mul (by omega) (by omega)
  omega
theorem cast_mulmod (a b : Nat) : ((a : Int) * b % 1073741789) = ((a * b % Qn : Nat) : Int) := by unfold Qn; simp
set_option maxHeartbeats 1000000 in
theorem ep_power (a n : Nat) (ha : a < 1073741789) (hn : n ≤ 9223372036854775807) (W : World) : Calls Tryd.prog 20 #[.int .i64 a, .int .i64 n] W (Same (.int .i64 (a ^ n % Qn : Nat)) W) := by
  obtain ⟨r, hr⟩ : ∃ r, Hid (1 * a ^ n % Qn = r) := ⟨_, Lib.hid rfl⟩
  have hr2 : Hid (a ^ n % Qn = r) := Lib.hid (by have := hr.out; rwa [Nat.one_mul] at this)
  rw [hr2.out]
  go_enter Tryd.func20, Tryd.ntmps20
  go_wp2
  go_loop [0, 1, 5] (fun u v s => ∃ x k c : Nat, u = .int .i64 x ∧ v = .int .i64 k ∧ s = .int .i64 c ∧ x < 1073741789 ∧ c < 1073741789 ∧ k ≤ 9223372036854775807 ∧ Hid (c * x ^ k % Qn = r)) (fun _ v _ => (intOf v).toNat)
  case atStart => exact ⟨a, n, 1, rfl, rfl, rfl, ha, by omega, hn, hr⟩
  case round =>
    clear hr hr2 ha hn
    obtain ⟨x, k, c, rfl, rfl, rfl, hx, hc, hk, hr⟩ := hrel
    have m1 := mul_q hc hx
    have m2 := mul_q hx hx
    have k1 := Lib.hid (cast_mulmod c x)
    have k2 := Lib.hid (cast_mulmod x x)
    have k3 : Hid ((k : Int) / 2 = ((k / 2 : Nat) : Int)) := Lib.hid (by simp)
    by_cases h0 : 0 < k
    · by_cases h1 : k % 2 = 1
      · have h2 : ((k : Int) % 2 == 1) = true := by simp; omega
        have hh := Lib.hid ((pq_odd (c := c) (a := x) h1).trans hr.out)
        clear h1 hr
        go_wp2
        exact ⟨⟨x * x % Qn, k / 2, c * x % Qn, by rw [k2.out], by rw [k3.out], by rw [k1.out], Nat.mod_lt _ (by decide), Nat.mod_lt _ (by decide), by omega, hh⟩, by simp [intOf]; omega⟩
      · have h2 : ((k : Int) % 2 == 1) = false := by simp; omega
        have hh := Lib.hid ((pq_even (c := c) (a := x) (show k % 2 = 0 by omega)).trans hr.out)
        clear h1 hr
        go_wp2
        exact ⟨⟨x * x % Qn, k / 2, c, by rw [k2.out], by rw [k3.out], rfl, Nat.mod_lt _ (by decide), hc, by omega, hh⟩, by simp [intOf]; omega⟩
    · obtain rfl : k = 0 := by omega
      have hh : Hid (c = r) := Lib.hid (by have := hr.out; rwa [Nat.pow_zero, Nat.mul_one, show c % Qn = c from Nat.mod_eq_of_lt hc] at this)
      clear hr
      go_wp2
      go_ret
      exact ⟨ret_int (by rw [hh.out]), rfl⟩

theorem ep_poly (s : Int) (A : Option Addr) (n c : Nat) (w : World) :
    Calls Tryd.prog 29 #[.int .i64 s, .slice A n c] w fun r w' =>
      r = .returned (.func (.func 53) #[] #[.pointer (some ⟨w.heap.size + 1, 0, none⟩), .pointer (some ⟨w.heap.size, 0, none⟩)]) ∧ w' = (w.alloc (.cells #[.int .i64 s] 3)).alloc (.cells #[.slice A n c] 38) := by
  have hmf : ∀ (fn : Fn) (first cap : Array Value) (w : World), (Instr.makeFunc fn first cap).run Tryd.prog w = .ok (.func fn first cap) w := fun _ _ _ _ => rfl
  go_enter Tryd.func29, Tryd.ntmps29
  go_wp2
  go_ret
  exact ⟨rfl, rfl⟩
theorem horN_lt (x : Nat) (l : List Int) : horN x l < 1073741789 := by
  cases l with
  | nil => show 0 < 1073741789; omega
  | cons m r => exact Nat.mod_lt _ (by decide)
theorem polN_lt (s : Nat) (l : List Int) (x : Nat) : polN s l x < 1073741789 := Nat.mod_lt _ (by decide)
set_option maxHeartbeats 1000000 in
theorem ep_poly1 (s x : Nat) (hs : s < 1073741789) (hx : x ≤ 1000000) (A : Option Addr) (n c bs bm : Nat) (l : List Int) (W : World) (hA : Rd W W.heap.size 1 A n (ints l)) (hn : n ≤ 1000) (B1 : Blk W bs 3 #[.int .i64 s]) (B2 : Blk W bm 38 #[.slice A n c]) :
    Calls Tryd.prog 53 #[.int .i64 x, .pointer (some ⟨bm, 0, none⟩), .pointer (some ⟨bs, 0, none⟩)] W (Same (.int .i64 (polN s l x : Nat)) W) := by
  obtain rfl : l.length = n := by have := hA.1; rw [ints_length, Nat.mul_one] at this; exact this
  have c1 : W.cell? ⟨bs, 0, none⟩ = some (.int .i64 s) := B1.cell 0
  have c2 : W.cell? ⟨bm, 0, none⟩ = some (.slice A l.length c) := B2.cell 0
  have hp : Hid ((horN x l + s) % Qn = polN s l x) := Lib.hid rfl
  go_enter Tryd.func53, Tryd.ntmps53
  go_wp2
  go_loop [5, 6] (fun u i => ∃ k : Nat, k ≤ l.length ∧ i = .int .i64 ((k : Int) - 1) ∧ u = .int .i64 (horN x (l.drop k) : Nat)) (fun _ i => (intOf i + 1).toNat)
  case atStart => exact ⟨l.length, Nat.le_refl _, rfl, by rw [List.drop_length]; rfl⟩
  case round =>
    obtain ⟨k, hk, rfl, rfl⟩ := hrel
    by_cases h0 : 0 < k
    · obtain ⟨j, rfl⟩ : ∃ j, k = j + 1 := ⟨k - 1, by omega⟩
      have hj : ((j + 1 : Nat) : Int) - 1 = (j : Int) := by omega
      rw [hj]
      obtain ⟨m, hm⟩ : ∃ m, Hid (l[j]? = some m) := ⟨_, Lib.hid (List.getElem?_eq_getElem (by omega))⟩
      obtain ⟨b, off, rfl, hbb, d0⟩ := Int_at hA (by omega) hm.out
      have hd : Hid (((((horN x (l.drop (j + 1)) : Nat) : Int) + (modQ m : Nat)) * (x : Int)) % 1073741789 = ((horN x (l.drop j) : Nat) : Int)) := Lib.hid (by
        obtain ⟨hl, rfl⟩ := List.getElem?_eq_some_iff.1 hm.out
        rw [List.drop_eq_getElem_cons hl]
        show _ = (((horN x (l.drop (j + 1)) + modQ l[j]) * x % Qn : Nat) : Int)
        rw [Int.natCast_emod, Int.natCast_mul, Int.natCast_add]
        rfl)
      have q := ep_mod m W
      have g1 := horN_lt x (l.drop (j + 1))
      have g2 := modQ_lt m
      generalize horN x (l.drop (j + 1)) = u at *
      generalize modQ m = v at *
      have g3 : ((u : Int) + v) * x ≤ 2147483577 * 1000000 := Int.mul_le_mul (by omega) (by omega) (by omega) (by omega)
      have g4 : 0 ≤ ((u : Int) + v) * x := Int.mul_nonneg (by omega) (by omega)
      have g5 : ((u : Int) + v) * x ≤ 2147483577000000 := by omega
      clear g3 hj
      go_wp2_with fail
      (with_reducible refine q.mono ?_)
      rintro e w1 ⟨rfl, rfl⟩
      clear q
      go_wp2_with fail
      exact ⟨⟨j, by omega, rfl, by rw [hd.out]⟩, by simp [intOf]⟩
    · obtain rfl : k = 0 := by omega
      rw [List.drop_zero]
      have g1 := horN_lt x l
      have hp2 : Hid ((((horN x l : Nat) : Int) + (s : Int)) % 1073741789 = ((polN s l x : Nat) : Int)) := Lib.hid (by rw [← hp.out, Int.natCast_emod, Int.natCast_add]; rfl)
      clear hp
      generalize horN x l = u at *
      go_wp2_with fail
      go_ret
      exact ⟨ret_int hp2.out, rfl⟩
end Go.Proofs.YtoeobcmmafncmaaDoor

/-
  epochs: Deal, Recover; walked where they succeed.
-/
namespace Go.Proofs.YtoeobcmmafncmaaDoor
open Go.RowKit

/-- A share. -/
def shC (p : Nat × Nat) : List Value := [.int .i64 (p.1 : Nat), .int .i64 (p.2 : Nat)]
theorem shC_len (p : Nat × Nat) : (shC p).length = 2 := rfl
theorem share_info : (Tryd.prog.info? 63).map (fun i => (i.zero, i.size, i.bytes)) = some (some (.agg #[.int .i64 0, .int .i64 0]), 2, 16) := by kernel_rfl
def RetSh (l : List (Nat × Nat)) (w : World) (r : Ending) (w' : World) : Prop := ∃ v, r = .returned (.tuple #[v, .int .i64 0]) ∧ Below w.heap.size w w' ∧ Sl w' w'.heap.size 2 v l.length (l.flatMap shC)
def dealL (s : Nat) (more : List Int) (n : Nat) : List (Nat × Nat) := (List.range n).map fun i => (i + 1, polN s more (i + 1))
theorem dealL_length (s : Nat) (more : List Int) (n : Nat) : (dealL s more n).length = n := by simp [dealL]
theorem dealL_succ (s : Nat) (more : List Int) (n : Nat) : dealL s more (n + 1) = dealL s more n ++ [(n + 1, polN s more (n + 1))] := by simp [dealL, List.range_succ]
theorem sh_at {w : World} {B n k : Nat} {A : Option Addr} {l : List (Nat × Nat)} {p : Nat × Nat} (h : Rd w B 2 A n (l.flatMap shC)) (hn : k < n) (hx : l[k]? = some p) :
    ∃ b off, A = some ⟨b, off, none⟩ ∧ b < B ∧ w.cell? ⟨b, off + k * 2, none⟩ = some (.int .i64 (p.1 : Nat)) ∧ w.cell? ⟨b, off + k * 2 + 1, none⟩ = some (.int .i64 (p.2 : Nat)) := by
  obtain ⟨b, off, hA, hb, hc⟩ := h.2 (by omega)
  have h0 := hc (k * 2 + 0) _ ((flat_at shC_len l k 0 p hx (by omega)).trans rfl)
  have h1 := hc (k * 2 + 1) _ ((flat_at shC_len l k 1 p hx (by omega)).trans rfl)
  exact ⟨b, off, hA, hb, by simpa using h0, by rw [Nat.add_assoc]; exact h1⟩
set_option maxHeartbeats 1000000 in
theorem ep_deal (s : Nat) (h0 : 0 < s) (hs : s < 1073741789) (A : Option Addr) (m c n : Nat) (l : List Int) (W : World) (hA : Rd W W.heap.size 1 A m (ints l)) (hn : n ≤ 24) (hm : m < n) :
    Calls Tryd.prog 11 #[.int .i64 s, .slice A m c, .int .i64 n] W (RetSh (dealL s l n) W) := by
  go_enter Tryd.func11, Tryd.ntmps11
  go_wp2_with fail
  refine (ep_poly s A m c W).mono ?_
  rintro e w2 ⟨rfl, rfl⟩
  have B1 : Blk ((W.alloc (.cells #[.int .i64 s] 3)).alloc (.cells #[.slice A m c] 38)) W.heap.size 3 #[.int .i64 s] := (Blk.new W 3 #[.int .i64 s] _ rfl).alloc _
  have B2 : Blk ((W.alloc (.cells #[.int .i64 s] 3)).alloc (.cells #[.slice A m c] 38)) (W.heap.size + 1) 38 #[.slice A m c] := Blk.new _ _ _ _ (by simp)
  have hb := bAl (bAl (bRefl W) (.cells #[.int .i64 s] 3)) (.cells #[.slice A m c] 38)
  generalize (W.alloc (.cells #[.int .i64 s] 3)).alloc (.cells #[.slice A m c] 38) = w2 at *
  go_wp2_with fail
  go_loopw [6, 9] (fun v x wr => ∃ k : Nat, k ≤ n ∧ x = .int .i64 ((k : Int) + 1) ∧ Below W.heap.size W wr ∧ Blk wr W.heap.size 3 #[.int .i64 s] ∧ Blk wr (W.heap.size + 1) 38 #[.slice A m c] ∧ wr.ownsRow (W.heap.size + 2) 63 2 v k ((dealL s l k).flatMap shC)) (fun _ x _ => n + 1 - (intOf x).toNat)
  case atStart => exact ⟨0, Nat.zero_le _, rfl, hb, B1, B2, World.ownsRow_nil _ _ _ _⟩
  case round =>
    clear hb B1 B2
    obtain ⟨k, hk, rfl, hb, B1, B2, hown⟩ := hrel
    by_cases hlt : k < n
    · have q := ep_poly1 s (k + 1) hs (by omega) A m c W.heap.size (W.heap.size + 1) l wr ((hA.below hb).more hb.size) (by omega) B1 B2
      rw [show ((k + 1 : Nat) : Int) = (k : Int) + 1 by omega] at q
      have hsn : Hid ((dealL s l (k + 1)).flatMap shC = (dealL s l k).flatMap shC ++ [.int .i64 ((k : Int) + 1), .int .i64 (polN s l (k + 1) : Nat)]) := Lib.hid (by rw [dealL_succ, List.flatMap_append]; rfl)
      generalize polN s l (k + 1) = v at *
      have hbs : W.heap.size + 2 ≤ wr.heap.size := B2.lt
      have h63 : k + 1 ≤ maxLen := by unfold maxLen; omega
      have hby : (k + 1) * 16 ≤ 140737488355328 := by omega
      have hle : (k : Int) + 1 ≤ n := by omega
      have hone : ∀ u ∈ [Value.int .i64 ((k : Int) + 1), .int .i64 (v : Nat)], u.oneCell' = true := by intro u hu; simp at hu; rcases hu with rfl | rfl <;> rfl
      go_wp2_with fail
      (with_reducible refine q.mono ?_)
      rintro e w1 ⟨rfl, rfl⟩
      clear q
      go_wp2_with (at_builtin; refine wpList_append1G wr [.int .i64 ((k : Int) + 1), .int .i64 (v : Nat)] (.tmp 36) (.tmp 42) 57 (W.heap.size + 2) 63 (.agg #[.int .i64 0, .int .i64 0]) 2 16 _ k ((dealL s l k).flatMap shC) rfl rfl Tryd.underlying57 share_info rfl (by omega) rfl hown rfl rfl hone h63 hby hbs ?_; intro v' w' hown4 hg4)
      have b4 := hg4.below hown hbs
      exact ⟨⟨k + 1, by omega, by go_num, hb.trans (b4.mono (by omega)), B1.below b4 (by omega), B2.below b4 (by omega), by rw [hsn.out]; exact hown4⟩, by simp [intOf]; omega⟩
    · obtain rfl : k = n := by omega
      obtain ⟨A2, c2, rfl, h1, h2, h3, h4⟩ := Sl.of_own hown
      go_wp2_with fail
      go_ret2
      exact ⟨_, rfl, hb, by rw [dealL_length]; exact ⟨_, _, rfl, h1, h2, h3, h4⟩⟩
end Go.Proofs.YtoeobcmmafncmaaDoor
