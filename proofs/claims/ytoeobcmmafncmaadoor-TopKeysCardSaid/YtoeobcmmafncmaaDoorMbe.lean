/-
  Shares in plain words: enough points of a polynomial say its value at zero. No program here.
-/
import Derived.Test.YtoeobcmmafncmaaDoorMak
namespace Go.Proofs.YtoeobcmmafncmaaDoor

abbrev Fq := Fin 1073741789
/-- A polynomial's value. -/
def evF : List Fq → Fq → Fq
  | [], _ => 0
  | a :: c, x => a + evF c x * x
theorem evF_div : ∀ (c : List Fq) (t : Fq), ∃ q : List Fq, q.length = c.length - 1 ∧ ∀ x, evF c x = evF c t + (x - t) * evF q x
  | [], t => ⟨[], rfl, fun x => by show (0 : Fq) = 0 + (x - t) * 0; grind⟩
  | [a], t => ⟨[], rfl, fun x => by show a + 0 * x = a + 0 * t + (x - t) * 0; grind⟩
  | a :: b :: c, t => by
    obtain ⟨q, hq, h⟩ := evF_div (b :: c) t
    refine ⟨evF (b :: c) t :: q, by simp at hq ⊢; omega, fun x => ?_⟩
    have := h x
    show a + evF (b :: c) x * x = a + evF (b :: c) t * t + (x - t) * (evF (b :: c) t + evF q x * x)
    rw [this]
    grind
section
variable (inv : Fq → Fq)
/-- The weight of a point x among others. -/
def wtF (x : Fq) : List Fq → Fq
  | [] => 1
  | y :: S => (if y = x then 1 else y * inv (y - x)) * wtF x S
/-- The sum over R, the weights among S. -/
def sumF (f : Fq → Fq) (S : List Fq) : List Fq → Fq
  | [] => 0
  | x :: R => f x * wtF inv x S + sumF f S R
theorem sumF_congr {f g : Fq → Fq} {S T : List Fq} : ∀ {R : List Fq}, (∀ x ∈ R, f x * wtF inv x S = g x * wtF inv x T) → sumF inv f S R = sumF inv g T R
  | [], _ => rfl
  | x :: R, h => by
    show f x * wtF inv x S + sumF inv f S R = g x * wtF inv x T + sumF inv g T R
    rw [h x (by simp), sumF_congr (fun y hy => h y (by simp [hy]))]
theorem sumF_sub (f g : Fq → Fq) (a b : Fq) (S : List Fq) : ∀ R : List Fq, sumF inv (fun x => a * f x - b * g x) S R = a * sumF inv f S R - b * sumF inv g S R
  | [] => by show (0 : Fq) = a * 0 - b * 0; grind
  | x :: R => by
    show (a * f x - b * g x) * wtF inv x S + sumF inv _ S R = a * (f x * wtF inv x S + sumF inv f S R) - b * (g x * wtF inv x S + sumF inv g S R)
    rw [sumF_sub f g a b S R]
    grind
theorem sumF_mul (f : Fq → Fq) (a : Fq) (S : List Fq) : ∀ R : List Fq, sumF inv (fun x => a * f x) S R = a * sumF inv f S R
  | [] => by show (0 : Fq) = a * 0; grind
  | x :: R => by
    show a * f x * wtF inv x S + sumF inv _ S R = a * (f x * wtF inv x S + sumF inv f S R)
    rw [sumF_mul f a S R]
    grind
theorem sumF_swap (f : Fq → Fq) (t s : Fq) (R : List Fq) : sumF inv f (t :: s :: R) (t :: s :: R) = sumF inv f (s :: t :: R) (s :: t :: R) := by
  have hw : ∀ x, wtF inv x (t :: s :: R) = wtF inv x (s :: t :: R) := fun x => by
    show _ * (_ * wtF inv x R) = _ * (_ * wtF inv x R)
    grind
  show f t * wtF inv t (t :: s :: R) + (f s * wtF inv s (t :: s :: R) + sumF inv f (t :: s :: R) R) = f s * wtF inv s (s :: t :: R) + (f t * wtF inv t (s :: t :: R) + sumF inv f (s :: t :: R) R)
  rw [hw t, hw s, sumF_congr inv (f := f) (g := f) (S := t :: s :: R) (T := s :: t :: R) (fun x _ => by rw [hw x])]
  grind
variable (hinv : ∀ x : Fq, x ≠ 0 → x * inv x = 1)
include hinv
/-- A point is taken out. -/
theorem sumF_out (q : Fq → Fq) (t : Fq) (S : List Fq) (ht : t ∉ S) : sumF inv (fun x => (t - x) * q x) (t :: S) (t :: S) = t * sumF inv q S S := by
  show (t - t) * q t * wtF inv t (t :: S) + sumF inv (fun x => (t - x) * q x) (t :: S) S = _
  have e1 : sumF inv (fun x => (t - x) * q x) (t :: S) S = sumF inv (fun x => t * q x) S S := sumF_congr inv (fun x hx => by
    have hne : t ≠ x := fun e => ht (e ▸ hx)
    show (t - x) * q x * ((if t = x then 1 else t * inv (t - x)) * wtF inv x S) = t * q x * wtF inv x S
    rw [if_neg hne]
    have h1 : t - x ≠ 0 := fun e => hne (by grind)
    have h2 := hinv (t - x) h1
    grind)
  rw [e1, sumF_mul]
  grind
theorem sumF_one : ∀ (n : Nat) (S : List Fq), S.length = n + 1 → S.Nodup → sumF inv (fun _ => 1) S S = 1
  | 0, [t], _, _ => by
    show 1 * ((if t = t then 1 else t * inv (t - t)) * 1) + 0 = (1 : Fq)
    rw [if_pos rfl]
    grind
  | n + 1, t :: s :: R, hl, hd => by
    obtain ⟨h1, h2⟩ := List.nodup_cons.1 hd
    obtain ⟨h3, h4⟩ := List.nodup_cons.1 h2
    have hts : t ≠ s := fun e => h1 (by simp [e])
    have htR : t ∉ R := fun e => h1 (by simp [e])
    have i1 := sumF_one n (s :: R) (by simpa using hl) h2
    have i2 := sumF_one n (t :: R) (by simpa using hl) (List.nodup_cons.2 ⟨htR, h4⟩)
    have o1 := sumF_out inv hinv (fun _ => 1) t (s :: R) h1
    have o2 := sumF_out inv hinv (fun _ => 1) s (t :: R) (fun e => by
      rcases List.mem_cons.1 e with e | e
      · exact hts e.symm
      · exact h3 e)
    rw [i1] at o1
    rw [i2, ← sumF_swap] at o2
    have e := sumF_sub inv (fun x => (t - x) * 1) (fun x => (s - x) * 1) 1 1 (t :: s :: R) (t :: s :: R)
    rw [o1, o2] at e
    have e2 : sumF inv (fun x => 1 * ((t - x) * 1) - 1 * ((s - x) * 1)) (t :: s :: R) (t :: s :: R) = sumF inv (fun x => (t - s) * 1) (t :: s :: R) (t :: s :: R) := sumF_congr inv (fun x _ => by grind)
    rw [e2, sumF_mul] at e
    have h5 := hinv (t - s) (fun e => hts (by grind))
    grind
/-- Enough points say the polynomial's value at zero. -/
theorem sumF_ev : ∀ (S : List Fq) (c : List Fq), c.length ≤ S.length → S.Nodup → sumF inv (evF c) S S = evF c 0
  | [], [], _, _ => rfl
  | [], _ :: _, h, _ => by simp at h
  | t :: S, c, hl, hd => by
    obtain ⟨q, hq, h⟩ := evF_div c t
    obtain ⟨h1, h2⟩ := List.nodup_cons.1 hd
    have ih := sumF_ev S q (by simp at hl; omega) h2
    have o := sumF_out inv hinv (evF q) t S h1
    have e1 := sumF_one inv hinv S.length (t :: S) rfl hd
    have e := sumF_sub inv (fun _ => 1) (fun x => (t - x) * evF q x) (evF c t) 1 (t :: S) (t :: S)
    have e2 : sumF inv (fun x => evF c t * 1 - 1 * ((t - x) * evF q x)) (t :: S) (t :: S) = sumF inv (evF c) (t :: S) (t :: S) := sumF_congr inv (fun x _ => by
      rw [h x]; grind)
    rw [e2, e1, o, ih] at e
    rw [e]
    have := h 0
    rw [this]
    grind
end
end Go.Proofs.YtoeobcmmafncmaaDoor

/-
  Fermat's theorem for the order of the group: inverses modulo Q. No program here.
-/
namespace Go.Proofs.YtoeobcmmafncmaaDoor

theorem Qn_noDiv : noDiv Qn 32766 2 = true := by decide +kernel
theorem Qn_prime {a : Nat} (h0 : 0 < a) (h1 : a < Qn) : Nat.Coprime Qn a := prime_of Qn_noDiv (by decide) h0 h1
theorem fermat_of {h a n p : Nat} (hh : 0 < h) (hp : p = 2 * h + 1) (hn : n = h + h) (hc : ∀ b, 0 < b → b < 2 * h + 1 → Nat.Coprime (2 * h + 1) b) (h0 : 0 < a) (h1 : a < p) : a ^ n % p = 1 := by
  subst hp
  have e := gauss_pow hh hc (hc a h0 h1)
  have e1 : (1 : Nat) % (2 * h + 1) = 1 := Nat.mod_eq_of_lt (by omega)
  rw [hn, Nat.pow_add, Nat.mul_mod, e]
  split
  · rw [Nat.one_mul]; exact e1
  · have e2 : 2 * h * (2 * h) = 1 + (2 * h + 1) * (2 * h - 1) := by
      obtain ⟨s, hs⟩ : ∃ s, 2 * h = s + 1 := ⟨2 * h - 1, by omega⟩
      rw [hs, Nat.add_sub_cancel]
      simp only [Nat.add_mul, Nat.mul_add]
      omega
    rw [e2, Nat.add_mul_mod_self_left]
    exact e1
/-- The exponent of an inverse. -/
def expQ : Nat := 1073741787
theorem fermatQ {a : Nat} (h0 : 0 < a) (h1 : a < Qn) : a ^ (expQ + 1) % Qn = 1 := by
  obtain ⟨m, hm⟩ : ∃ m : Nat, m = 536870894 := ⟨_, rfl⟩
  have hq : Qn = 2 * m + 1 := by rw [hm]; rfl
  have hn : expQ + 1 = m + m := by rw [hm]; rfl
  exact fermat_of (by omega) hq hn (fun b b0 b1 => by rw [← hq] at b1 ⊢; exact Qn_prime b0 b1) h0 h1
/-- The inverse, as the program reckons it. -/
def invF (x : Fq) : Fq := ⟨x.val ^ expQ % Qn, Nat.mod_lt _ (by decide)⟩
theorem invF_mul (x : Fq) (hx : x ≠ 0) : x * invF x = 1 := by
  have h0 : 0 < x.val := by
    rcases Nat.eq_zero_or_pos x.val with h | h
    · exact absurd (Fin.ext h) hx
    · exact h
  have h := fermatQ h0 x.isLt
  apply Fin.ext
  rw [Fin.val_mul]
  have e : (invF x).val = x.val ^ expQ % Qn := rfl
  rw [e]
  show x.val * (x.val ^ expQ % Qn) % Qn = 1
  rw [Nat.mul_mod, Nat.mod_mod, ← Nat.mul_mod, Nat.mul_comm, ← Nat.pow_succ]
  exact h
theorem recover_ev (S : List Fq) (c : List Fq) (hl : c.length ≤ S.length) (hd : S.Nodup) : sumF invF (evF c) S S = evF c 0 := sumF_ev invF invF_mul S c hl hd
end Go.Proofs.YtoeobcmmafncmaaDoor
