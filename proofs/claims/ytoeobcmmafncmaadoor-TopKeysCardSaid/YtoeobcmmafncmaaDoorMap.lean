/-
  elgamal: secrets, keys, products, powers.
-/
import Derived.Test.YtoeobcmmafncmaaDoorMao
import Derived.Deep.RegionHeld3
namespace Go.Proofs.YtoeobcmmafncmaaDoor
open Go.RowKit

def secB (n : Int) : Bool := decide (1 ≤ n ∧ n < 1073741789)
theorem el_secret (n : Int) (W : World) : Calls Tryd.prog 21 #[.int .i64 n] W (Same (.bool (secB n)) W) := by
  by_cases h : 1 ≤ n
  · by_cases h2 : n < 1073741789
    · have hd : Hid (secB n = true) := decide_eq_true ⟨h, h2⟩
      go_enter Tryd.func21, Tryd.ntmps21
      go_wp2_with fail
      go_ret
      rw [hd.out]; exact ⟨rfl, rfl⟩
    · have hd : Hid (secB n = false) := decide_eq_false (fun c => h2 c.2)
      go_enter Tryd.func21, Tryd.ntmps21
      go_wp2_with fail
      go_ret
      rw [hd.out]; exact ⟨rfl, rfl⟩
  · have hd : Hid (secB n = false) := decide_eq_false (fun c => h c.1)
    go_enter Tryd.func21, Tryd.ntmps21
    go_wp2_with fail
    go_ret
    rw [hd.out]; exact ⟨rfl, rfl⟩

def pubV (s : Int) : Int := if secB s = true then powV 4 s else 0
def pubE (s : Int) : Int := if secB s = true then powE 4 else 110
theorem el_public (s : Int) (W : World) : Calls Tryd.prog 6 #[.int .i64 s] W (Ret (.tuple #[.int .i64 (pubV s), .int .i64 (pubE s)]) W) := by
  have q := el_secret s W
  cases h : secB s
  · rw [h] at q
    have h1 : Hid (pubV s = 0) := if_neg (by simp [h])
    have h2 : Hid (pubE s = 110) := if_neg (by simp [h])
    go_enter Tryd.func6, Tryd.ntmps6
    go_wp2_with fail
    (with_reducible refine q.mono ?_)
    rintro e w1 ⟨rfl, rfl⟩
    clear q
    go_wp2_with fail
    go_ret2
    rw [h1.out, h2.out]
    exact ⟨rfl, bRefl _⟩
  · rw [h] at q
    have h1 : Hid (pubV s = powV 4 s) := if_pos h
    have h2 : Hid (pubE s = powE 4) := if_pos h
    have q2 := group_pow 4 s W
    go_enter Tryd.func6, Tryd.ntmps6
    go_wp2_with fail
    (with_reducible refine q.mono ?_)
    rintro e w1 ⟨rfl, rfl⟩
    clear q
    go_wp2_with fail
    (with_reducible refine q2.mono ?_)
    rintro e w1 ⟨rfl, b⟩
    clear q2
    go_wp2_with fail
    go_ret2
    rw [h1.out, h2.out]
    exact ⟨rfl, b⟩

theorem el_power (a n : Int) (W : World) : Calls Tryd.prog 52 #[.int .i64 a, .int .i64 n] W (Ret (.int .i64 (powV a n)) W) := by
  have q := group_pow a n W
  go_enter Tryd.func52, Tryd.ntmps52
  go_wp2_with fail
  with_reducible refine q.mono ?_
  rintro e w1 ⟨rfl, b1⟩
  clear q
  go_wp2_with fail
  go_ret
  exact ⟨rfl, b1⟩

/-- The product of elements, and the error of the first that is none. -/
def foldV : Int → List Int → Option Int
  | c, [] => some c
  | c, x :: l => if mulE c x = 0 then foldV (mulV c x) l else none
theorem foldV_snoc (c : Int) (l : List Int) (x : Int) : foldV c (l ++ [x]) = (foldV c l).bind (fun v => if mulE v x = 0 then some (mulV v x) else none) := by
  induction l generalizing c with
  | nil => simp only [List.nil_append, foldV, Option.bind_some]
  | cons y l ih =>
    simp only [List.cons_append, foldV]
    split
    · exact ih _
    · rfl
theorem foldV_app_none {c : Int} {l : List Int} (h : foldV c l = none) (m : List Int) : foldV c (l ++ m) = none := by
  induction l generalizing c with
  | nil => simp [foldV] at h
  | cons y l ih =>
    simp only [List.cons_append, foldV] at h ⊢
    split
    · rename_i hc
      rw [if_pos hc] at h
      exact ih h
    · rfl
theorem mulE_two (a b : Int) : mulE a b = 0 ∨ mulE a b = 90 := by
  unfold mulE; split
  · split <;> simp
  · simp
def joinV (l : List Int) : Int := (foldV 1 l).getD 0
def joinE (l : List Int) : Int := if (foldV 1 l).isSome then 0 else 90

set_option maxHeartbeats 2000000 in
theorem el_fold (A : Option Addr) (n c : Nat) (l : List Int) (W : World) (hA : Rd W W.heap.size 1 A n (ints l)) (hn : n ≤ 1000) :
    Calls Tryd.prog 23 #[.slice A n c, .int .i64 1, .func (.func 24) #[] #[]] W (Same (.tuple #[.int .i64 ((foldV 1 l).getD 1), .int .i64 (joinE l)]) W) := by
  obtain rfl : l.length = n := by have := hA.1; rw [ints_length, Nat.mul_one] at this; exact this
  go_enter Tryd.func23, Tryd.ntmps23
  go_wp2_with fail
  go_loop [6, 13] (fun s i => ∃ (k : Nat) (v : Int), k ≤ l.length ∧ i = .int .i64 k ∧ s = .int .i64 v ∧ foldV 1 (l.take k) = some v) (fun _ i => l.length - (intOf i).toNat)
  case atStart => exact ⟨0, 1, Nat.zero_le _, rfl, rfl, rfl⟩
  case round =>
    obtain ⟨k, v, hkn, rfl, rfl, hv⟩ := hrel
    by_cases hlt : k < l.length
    · obtain ⟨x, hx⟩ : ∃ x, Hid (l[k]? = some x) := ⟨_, Lib.hid (List.getElem?_eq_getElem hlt)⟩
      obtain ⟨b, off, rfl, hbb, c0⟩ := Int_at hA hlt hx.out
      have hs : Hid (foldV 1 (l.take (k + 1)) = if mulE v x = 0 then some (mulV v x) else none) := by
        show _ = _
        obtain ⟨hk, rfl⟩ := List.getElem?_eq_some_iff.1 hx.out
        rw [List.take_succ_eq_append_getElem hk, foldV_snoc, hv]; rfl
      have q := group_mul v x W
      rcases mulE_two v x with he | he
      · rw [he] at q
        go_wp2_with fail
        (with_reducible refine q.mono ?_)
        rintro e w1 ⟨rfl, rfl⟩
        clear q
        go_wp2_with fail
        exact ⟨⟨k + 1, _, by omega, by go_num, rfl, by rw [hs.out, if_pos he]⟩, by simp [intOf]; omega⟩
      · have hnone : Hid (foldV 1 l = none) := by
          show _ = _
          have := hs.out
          rw [if_neg (by omega)] at this
          have := foldV_app_none this (l.drop (k + 1))
          rwa [List.take_append_drop] at this
        rw [he] at q
        go_wp2_with fail
        (with_reducible refine q.mono ?_)
        rintro e w1 ⟨rfl, rfl⟩
        clear q
        go_wp2_with fail
        go_ret2
        unfold joinE
        rw [hnone.out]
        exact ⟨rfl, rfl⟩
    · rw [List.take_of_length_le (by omega)] at hv
      have hv' : Hid (foldV 1 l = some v) := hv
      clear hv
      go_wp2_with fail
      go_ret2
      unfold joinE
      rw [hv'.out]
      exact ⟨rfl, rfl⟩

theorem el_join (A : Option Addr) (n c : Nat) (l : List Int) (W : World) (hA : Rd W W.heap.size 1 A n (ints l)) (hn : n ≤ 1000) :
    Calls Tryd.prog 7 #[.slice A n c] W (Same (.tuple #[.int .i64 (joinV l), .int .i64 (joinE l)]) W) := by
  have q := el_fold A n c l W hA hn
  cases h : foldV 1 l with
  | none =>
    have e1 : Hid (joinV l = 0) := by show _ = _; unfold joinV; rw [h]; rfl
    have e2 : Hid (joinE l = 90) := by show _ = _; unfold joinE; rw [h]; rfl
    rw [h, e2.out] at q
    rw [e1.out, e2.out]
    clear h
    go_enter Tryd.func7, Tryd.ntmps7
    go_wp2_with fail
    (with_reducible refine q.mono ?_)
    rintro e w1 ⟨rfl, rfl⟩
    clear q
    go_wp2_with fail
    go_ret2
    exact ⟨rfl, rfl⟩
  | some v =>
    have e1 : Hid (joinV l = v) := by show _ = _; unfold joinV; rw [h]; rfl
    have e2 : Hid (joinE l = 0) := by show _ = _; unfold joinE; rw [h]; rfl
    rw [h, e2.out] at q
    rw [e1.out, e2.out]
    clear h
    go_enter Tryd.func7, Tryd.ntmps7
    go_wp2_with fail
    (with_reducible refine q.mono ?_)
    rintro e w1 ⟨rfl, rfl⟩
    clear q
    go_wp2_with fail
    go_ret2
    exact ⟨rfl, rfl⟩

/-- The product of numbers of the field. -/
def timesL (l : List Int) : Int := l.foldl (fun c x => c * x % 2147483579) 1
theorem timesL_snoc (l : List Int) (x : Int) : timesL (l ++ [x]) = timesL l * x % 2147483579 := by simp [timesL]
end Go.Proofs.YtoeobcmmafncmaaDoor

/-
  elgamal: times; what changes one cipher.
-/
namespace Go.Proofs.YtoeobcmmafncmaaDoor
open Go.RowKit

def inP (n : Int) : Prop := 0 ≤ n ∧ n < 2147483579
theorem timesL_inP (l : List Int) : inP (timesL l) := by
  rcases List.eq_nil_or_concat l with rfl | ⟨l, x, rfl⟩
  · exact (⟨by omega, by omega⟩ : inP 1)
  · rw [List.concat_eq_append, timesL_snoc]
    exact ⟨Int.emod_nonneg _ (by omega), Int.emod_lt_of_pos _ (by omega)⟩

set_option maxHeartbeats 2000000 in
theorem el_times (A : Option Addr) (n c : Nat) (l : List Int) (W : World) (hA : Rd W W.heap.size 1 A n (ints l)) (hn : n ≤ 1000) (hin : ∀ x ∈ l, inP x) :
    Calls Tryd.prog 51 #[.slice A n c] W (Same (.int .i64 (timesL l)) W) := by
  obtain rfl : l.length = n := by have := hA.1; rw [ints_length, Nat.mul_one] at this; exact this
  go_enter Tryd.func51, Tryd.ntmps51
  go_wp2_with fail
  go_loop [3, 8] (fun s i => ∃ k : Nat, k ≤ l.length ∧ i = .int .i64 k ∧ s = .int .i64 (timesL (l.take k))) (fun _ i => l.length - (intOf i).toNat)
  case atStart => exact ⟨0, Nat.zero_le _, rfl, rfl⟩
  case round =>
    obtain ⟨k, hkn, rfl, rfl⟩ := hrel
    by_cases hlt : k < l.length
    · obtain ⟨x, hx⟩ : ∃ x, Hid (l[k]? = some x) := ⟨_, Lib.hid (List.getElem?_eq_getElem hlt)⟩
      obtain ⟨b, off, rfl, hbb, c0⟩ := Int_at hA hlt hx.out
      have hs : Hid (timesL (l.take (k + 1)) = timesL (l.take k) * x % 2147483579) := by
        show _ = _
        obtain ⟨hk, rfl⟩ := List.getElem?_eq_some_iff.1 hx.out
        rw [List.take_succ_eq_append_getElem hk, timesL_snoc]
      obtain ⟨x1, x2⟩ := hin x (List.mem_of_getElem? hx.out)
      obtain ⟨r1, r2⟩ := timesL_inP (l.take k)
      obtain ⟨m1, m2⟩ := mul_rng r1 x1 r2 x2
      go_wp2_with fail
      exact ⟨⟨k + 1, by omega, by go_num, by rw [hs.out]⟩, by simp [intOf]; omega⟩
    · go_wp2_with fail
      go_ret
      exact ⟨ret_int (by rw [List.take_of_length_le (by omega)]), rfl⟩
/-- Of two numbers, in a slice just made. -/
theorem el_times2 (a b : Int) (W : World) (ha : inP a) (hb : inP b) :
    Calls Tryd.prog 51 #[.slice (some ⟨W.heap.size, 0, none⟩) 2 2] (W.alloc (.cells #[.int .i64 a, .int .i64 b] 3)) (Same (.int .i64 (timesL [a, b])) (W.alloc (.cells #[.int .i64 a, .int .i64 b] 3))) :=
  el_times _ 2 2 [a, b] _ (Rd.new W (ints [a, b]) _ 1 2 _ rfl rfl) (by omega) (by intro x hx; simp at hx; rcases hx with rfl | rfl <;> assumption)
theorem powV_inP (a n : Int) : inP (powV a n) := by
  unfold powV
  split
  · have h : powP a.toNat (expN n) < 2147483579 := powP_lt a.toNat (expN n)
    unfold inP; omega
  · exact ⟨by omega, by omega⟩
end Go.Proofs.YtoeobcmmafncmaaDoor
