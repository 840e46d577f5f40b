/-
  equal.Check, walked.
-/
import Derived.Test.YtoeobcmmafncmaaDoorMaw
namespace Go.Proofs.YtoeobcmmafncmaaDoor
open Go.RowKit

def chk1 (key x y : Int) : Bool := validB key && validB x && validB y
def chk2 (E S : Int) : Bool := ordB E && ordB S
def chk3 (key x y E S : Int) : Bool := decide (E = (chalV key x y (rV key E S) (sV x y E S) : Nat))
def checkB (key x y E S : Int) : Bool := chk1 key x y && (chk2 E S && chk3 key x y E S)

theorem ordB_rng {E S : Int} (h : chk2 E S = true) : (0 ≤ E ∧ E < 1073741789) ∧ (0 ≤ S ∧ S < 1073741789) := by
  unfold chk2 ordB at h
  simpa using h

set_option maxRecDepth 100000 in
set_option maxHeartbeats 2000000 in
theorem equal_check (W : World) (key x y E S : Int) (i1 : inI key) (i2 : inI x) (i3 : inI y) (hG : ShaG W) :
    Calls Tryd.prog 36 #[.int .i64 key, .int .i64 x, .int .i64 y, .agg #[.int .i64 E, .int .i64 S]] W (Ret (.bool (checkB key x y E S)) W) := by
  have hmf : ∀ (fn : Fn) (first cap : Array Value) (w : World), (Instr.makeFunc fn first cap).run Tryd.prog w = .ok (.func fn first cap) w := fun _ _ _ _ => rfl
  go_enter Tryd.func36, Tryd.ntmps36
  go_wp2_with fail
  have BF := Blk.new ((((W.alloc (.cells #[.int .i64 key] 3)).alloc (.cells #[.int .i64 x] 3)).alloc (.cells #[.int .i64 y] 3)).alloc (.cells #[.int .i64 E, .int .i64 S] 95)) 130 #[.func (.func 61) #[] #[.pointer (some ⟨W.heap.size, 0, none⟩), .pointer (some ⟨W.heap.size + 1, 0, none⟩), .pointer (some ⟨W.heap.size + 1 + 1, 0, none⟩)], .func (.func 62) #[] #[.pointer (some ⟨W.heap.size + 1 + 1 + 1, 0, none⟩)], .func (.func 64) #[] #[.pointer (some ⟨W.heap.size + 1 + 1 + 1, 0, none⟩), .pointer (some ⟨W.heap.size, 0, none⟩), .pointer (some ⟨W.heap.size + 1, 0, none⟩), .pointer (some ⟨W.heap.size + 1 + 1, 0, none⟩)]] (W.heap.size + 1 + 1 + 1 + 1) (by simp)
  have C : CK (((((W.alloc (.cells #[.int .i64 key] 3)).alloc (.cells #[.int .i64 x] 3)).alloc (.cells #[.int .i64 y] 3)).alloc (.cells #[.int .i64 E, .int .i64 S] 95)).alloc (.cells #[.func (.func 61) #[] #[.pointer (some ⟨W.heap.size, 0, none⟩), .pointer (some ⟨W.heap.size + 1, 0, none⟩), .pointer (some ⟨W.heap.size + 1 + 1, 0, none⟩)], .func (.func 62) #[] #[.pointer (some ⟨W.heap.size + 1 + 1 + 1, 0, none⟩)], .func (.func 64) #[] #[.pointer (some ⟨W.heap.size + 1 + 1 + 1, 0, none⟩), .pointer (some ⟨W.heap.size, 0, none⟩), .pointer (some ⟨W.heap.size + 1, 0, none⟩), .pointer (some ⟨W.heap.size + 1 + 1, 0, none⟩)]] 130)) W.heap.size (W.heap.size + 1) (W.heap.size + 1 + 1) (W.heap.size + 1 + 1 + 1) key x y E S :=
    ⟨((((Blk.new W _ _ _ rfl).alloc _).alloc _).alloc _).alloc _, (((Blk.new _ _ _ _ (by simp)).alloc _).alloc _).alloc _, ((Blk.new _ _ _ _ (by simp)).alloc _).alloc _, (Blk.new _ _ _ _ (by simp)).alloc _⟩
  have hb := bAl (bAl (bAl (bAl (bAl (bRefl W) (.cells #[.int .i64 key] 3)) (.cells #[.int .i64 x] 3)) (.cells #[.int .i64 y] 3)) (.cells #[.int .i64 E, .int .i64 S] 95)) (.cells #[.func (.func 61) #[] #[.pointer (some ⟨W.heap.size, 0, none⟩), .pointer (some ⟨W.heap.size + 1, 0, none⟩), .pointer (some ⟨W.heap.size + 1 + 1, 0, none⟩)], .func (.func 62) #[] #[.pointer (some ⟨W.heap.size + 1 + 1 + 1, 0, none⟩)], .func (.func 64) #[] #[.pointer (some ⟨W.heap.size + 1 + 1 + 1, 0, none⟩), .pointer (some ⟨W.heap.size, 0, none⟩), .pointer (some ⟨W.heap.size + 1, 0, none⟩), .pointer (some ⟨W.heap.size + 1 + 1, 0, none⟩)]] 130)
  generalize ((((W.alloc (.cells #[.int .i64 key] 3)).alloc (.cells #[.int .i64 x] 3)).alloc (.cells #[.int .i64 y] 3)).alloc (.cells #[.int .i64 E, .int .i64 S] 95)).alloc (.cells #[.func (.func 61) #[] #[.pointer (some ⟨W.heap.size, 0, none⟩), .pointer (some ⟨W.heap.size + 1, 0, none⟩), .pointer (some ⟨W.heap.size + 1 + 1, 0, none⟩)], .func (.func 62) #[] #[.pointer (some ⟨W.heap.size + 1 + 1 + 1, 0, none⟩)], .func (.func 64) #[] #[.pointer (some ⟨W.heap.size + 1 + 1 + 1, 0, none⟩), .pointer (some ⟨W.heap.size, 0, none⟩), .pointer (some ⟨W.heap.size + 1, 0, none⟩), .pointer (some ⟨W.heap.size + 1 + 1, 0, none⟩)]] 130) = w1 at *
  go_loopw [16] (fun i wr => ∃ k : Int, i = .int .i64 k ∧ Below W.heap.size W wr ∧ CK wr W.heap.size (W.heap.size + 1) (W.heap.size + 1 + 1) (W.heap.size + 1 + 1 + 1) key x y E S ∧ Blk wr (W.heap.size + 1 + 1 + 1 + 1) 130 #[.func (.func 61) #[] #[.pointer (some ⟨W.heap.size, 0, none⟩), .pointer (some ⟨W.heap.size + 1, 0, none⟩), .pointer (some ⟨W.heap.size + 1 + 1, 0, none⟩)], .func (.func 62) #[] #[.pointer (some ⟨W.heap.size + 1 + 1 + 1, 0, none⟩)], .func (.func 64) #[] #[.pointer (some ⟨W.heap.size + 1 + 1 + 1, 0, none⟩), .pointer (some ⟨W.heap.size, 0, none⟩), .pointer (some ⟨W.heap.size + 1, 0, none⟩), .pointer (some ⟨W.heap.size + 1 + 1, 0, none⟩)]] ∧ (k = 0 ∨ k = 1 ∧ chk1 key x y = true ∨ k = 2 ∧ chk1 key x y = true ∧ chk2 E S = true ∨ k = 3 ∧ chk1 key x y = true ∧ chk2 E S = true ∧ chk3 key x y E S = true)) (fun i _ => 3 - (intOf i).toNat)
  case atStart => exact ⟨0, rfl, hb, C, BF, .inl rfl⟩
  case round =>
    clear hb C BF
    obtain ⟨k, rfl, hb, C, BF, hk⟩ := hrel
    have f0 := BF.cell 0
    have f1 := BF.cell 1
    have f2 := BF.cell 2
    simp only [List.getElem?_toArray, List.getElem?_cons_zero, List.getElem?_cons_succ] at f0 f1 f2
    rcases hk with rfl | ⟨rfl, h1⟩ | ⟨rfl, h1, h2⟩ | ⟨rfl, h1, h2, h3⟩
    · have q : Calls Tryd.prog 61 #[.pointer (some ⟨W.heap.size, 0, none⟩), .pointer (some ⟨W.heap.size + 1, 0, none⟩), .pointer (some ⟨W.heap.size + 1 + 1, 0, none⟩)] wr (Same (.bool (chk1 key x y)) wr) := check1 wr _ _ _ _ key x y E S C
      cases hc : chk1 key x y
      · rw [hc] at q
        go_wp2_with fail
        (with_reducible refine q.mono ?_)
        rintro e w6 ⟨rfl, rfl⟩
        clear q
        go_wp2_with fail
        go_ret
        exact ⟨by simp [checkB, *], hb⟩
      · rw [hc] at q
        go_wp2_with fail
        (with_reducible refine q.mono ?_)
        rintro e w6 ⟨rfl, rfl⟩
        clear q
        go_wp2_with fail
        exact ⟨⟨1, rfl, hb, C, BF, by simp [*]⟩, by simp [intOf]⟩
    · have q : Calls Tryd.prog 62 #[.pointer (some ⟨W.heap.size + 1 + 1 + 1, 0, none⟩)] wr (Same (.bool (chk2 E S)) wr) := check2 wr _ _ _ _ key x y E S C
      cases hc : chk2 E S
      · rw [hc] at q
        go_wp2_with fail
        (with_reducible refine q.mono ?_)
        rintro e w6 ⟨rfl, rfl⟩
        clear q
        go_wp2_with fail
        go_ret
        exact ⟨by simp [checkB, *], hb⟩
      · rw [hc] at q
        go_wp2_with fail
        (with_reducible refine q.mono ?_)
        rintro e w6 ⟨rfl, rfl⟩
        clear q
        go_wp2_with fail
        exact ⟨⟨2, rfl, hb, C, BF, by simp [*]⟩, by simp [intOf]⟩
    · have q : Calls Tryd.prog 64 #[.pointer (some ⟨W.heap.size + 1 + 1 + 1, 0, none⟩), .pointer (some ⟨W.heap.size, 0, none⟩), .pointer (some ⟨W.heap.size + 1, 0, none⟩), .pointer (some ⟨W.heap.size + 1 + 1, 0, none⟩)] wr (Ret (.bool (chk3 key x y E S)) wr) := check3 wr _ _ _ _ key x y E S C (ordB_rng h2).1 (ordB_rng h2).2 i1 i2 i3 (hG.below hb)
      cases hc : chk3 key x y E S
      · rw [hc] at q
        go_wp2_with fail
        (with_reducible refine q.mono ?_)
        rintro e w6 ⟨rfl, b6⟩
        clear q
        go_wp2_with fail
        go_ret
        exact ⟨by simp [checkB, *], bCall hb b6⟩
      · rw [hc] at q
        go_wp2_with fail
        (with_reducible refine q.mono ?_)
        rintro e w6 ⟨rfl, b6⟩
        clear q
        go_wp2_with fail
        exact ⟨⟨3, rfl, bCall hb b6, C.below b6, BF.below b6 BF.lt, by simp [*]⟩, by simp [intOf]⟩
    · go_wp2_with fail
      go_ret
      exact ⟨by simp [checkB, *], hb⟩
end Go.Proofs.YtoeobcmmafncmaaDoor

/-
  equal: lists of letters are checked.
-/
namespace Go.Proofs.YtoeobcmmafncmaaDoor
open Go.RowKit

/-- A letter's cells. -/
def Ltr.cl (x : Ltr) : List Value := [.int .i64 x.a0, .int .i64 x.b0, .int .i64 x.a1, .int .i64 x.b1, .int .i64 x.a2, .int .i64 x.b2]
theorem Ltr.cl_length (x : Ltr) : x.cl.length = 6 := rfl
theorem Ltr_at {w : World} {B n k : Nat} {A : Option Addr} {l : List Ltr} {x : Ltr} (h : Rd w B 6 A n (l.flatMap Ltr.cl)) (hn : k < n) (hx : l[k]? = some x) :
    ∃ b off, A = some ⟨b, off, none⟩ ∧ b < B ∧ w.cell? ⟨b, off + k * 6, none⟩ = some (.int .i64 x.a0) ∧ w.cell? ⟨b, off + k * 6 + 1, none⟩ = some (.int .i64 x.b0) ∧ w.cell? ⟨b, off + k * 6 + 2, none⟩ = some (.int .i64 x.a1) ∧
      w.cell? ⟨b, off + k * 6 + 3, none⟩ = some (.int .i64 x.b1) ∧ w.cell? ⟨b, off + k * 6 + 4, none⟩ = some (.int .i64 x.a2) ∧ w.cell? ⟨b, off + k * 6 + 5, none⟩ = some (.int .i64 x.b2) := by
  obtain ⟨b, off, hA, hb, hc⟩ := h.2 (by omega)
  have key : ∀ j u, x.cl[j]? = some u → w.cell? ⟨b, off + k * 6 + j, none⟩ = some u := fun j u hu => by
    have hj : j < 6 := by have := (List.getElem?_eq_some_iff.1 hu).1; rw [Ltr.cl_length] at this; exact this
    have := hc (k * 6 + j) u (by rw [flat_at Ltr.cl_length l k j x hx hj]; exact hu)
    rw [← Nat.add_assoc] at this
    exact this
  exact ⟨b, off, hA, hb, key 0 _ rfl, key 1 _ rfl, key 2 _ rfl, key 3 _ rfl, key 4 _ rfl, key 5 _ rfl⟩
theorem Ltrs_length {w : World} {B n : Nat} {A : Option Addr} {l : List Ltr} (h : Rd w B 6 A n (l.flatMap Ltr.cl)) : l.length = n := by
  have h1 := h.1
  have : ∀ l : List Ltr, (l.flatMap Ltr.cl).length = l.length * 6 := fun l => by
    induction l with
    | nil => rfl
    | cons x l ih => rw [List.flatMap_cons, List.length_append, ih, Ltr.cl_length, List.length_cons]; omega
  rw [this] at h1
  omega

theorem check_one (x : Ltr) (W : World) : Calls Tryd.prog 56 #[.agg #[.int .i64 x.a0, .int .i64 x.b0, .int .i64 x.a1, .int .i64 x.b1, .int .i64 x.a2, .int .i64 x.b2]] W (Ret (.bool !x.good) W) := by
  have q := el_check x (W.alloc (.cells #[.int .i64 x.a0, .int .i64 x.b0, .int .i64 x.a1, .int .i64 x.b1, .int .i64 x.a2, .int .i64 x.b2] 54))
  have hb := bAl (bRefl W) (.cells #[.int .i64 x.a0, .int .i64 x.b0, .int .i64 x.a1, .int .i64 x.b1, .int .i64 x.a2, .int .i64 x.b2] 54)
  have he : x.err = if x.good = true then 0 else 100 := rfl
  cases hg : x.good
  all_goals
    rw [hg] at he
    simp at he
    rw [he] at q
    clear he hg
    go_enter Tryd.func56, Tryd.ntmps56
    go_wp2_with fail
    (with_reducible refine q.mono ?_)
    rintro e w1 ⟨rfl, b1⟩
    clear q
    go_wp2_with fail
    go_ret
    exact ⟨rfl, bCall hb b1⟩

/-- The place of the first letter that is none. -/
def badI (l : List Ltr) : Int := match l.findIdx? (fun x => !x.good) with | some k => k | none => -1
theorem findIdx_prefix {α : Type} {p : α → Bool} {l : List α} {k : Nat} {x : α} (h : ∀ y ∈ l.take k, p y = false) (hx : l[k]? = some x) (hp : p x = true) : l.findIdx? p = some k := by
  rw [List.findIdx?_eq_some_iff_getElem]
  obtain ⟨hk, hxe⟩ := List.getElem?_eq_some_iff.1 hx
  refine ⟨hk, by rw [hxe]; exact hp, fun j hj => ?_⟩
  have hm : l[j]'(by omega) ∈ l.take k := List.mem_take_iff_getElem.2 ⟨j, by omega, rfl⟩
  rw [h _ hm]; simp
theorem findIdx_none {α : Type} {p : α → Bool} {l : List α} (h : ∀ y ∈ l, p y = false) : l.findIdx? p = none := by
  rw [List.findIdx?_eq_none_iff]; exact h

set_option maxRecDepth 100000 in
set_option maxHeartbeats 2000000 in
theorem index_bad (A : Option Addr) (n c : Nat) (l : List Ltr) (W : World) (hA : Rd W W.heap.size 6 A n (l.flatMap Ltr.cl)) (hn : n ≤ 9223372036854775807) :
    Calls Tryd.prog 76 #[.slice A n c, .func (.func 56) #[] #[]] W (Ret (.int .i64 (badI l)) W) := by
  obtain rfl : l.length = n := Ltrs_length hA
  go_enter Tryd.func76, Tryd.ntmps76
  go_wp2_with fail
  go_loopw [8] (fun i wr => ∃ k : Nat, k ≤ l.length ∧ i = .int .i64 k ∧ Below W.heap.size W wr ∧ Hid (∀ y ∈ l.take k, (!y.good) = false)) (fun i _ => l.length - (intOf i).toNat)
  case atStart => exact ⟨0, Nat.zero_le _, rfl, bRefl _, Lib.hid (by simp)⟩
  case round =>
    obtain ⟨k, hkn, rfl, hb, hp⟩ := hrel
    by_cases hlt : k < l.length
    · obtain ⟨x, hx⟩ : ∃ x, Hid (l[k]? = some x) := ⟨_, Lib.hid (List.getElem?_eq_getElem hlt)⟩
      obtain ⟨b, off, rfl, hbb, c0, c1, c2, c3, c4, c5⟩ := Ltr_at (hA.below hb) hlt hx.out
      have q := check_one x wr
      cases hg : (!x.good)
      · have hp' : Hid (∀ y ∈ l.take (k + 1), (!y.good) = false) := by
          intro y hy
          obtain ⟨hk, rfl⟩ := List.getElem?_eq_some_iff.1 hx.out
          rw [List.take_succ_eq_append_getElem hk] at hy
          rcases List.mem_append.1 hy with hy | hy
          · exact hp.out y hy
          · obtain rfl : y = l[k] := by simpa using hy
            exact hg
        rw [hg] at q
        clear hg
        go_wp2_with fail
        (with_reducible refine q.mono ?_)
        rintro e w1 ⟨rfl, b1⟩
        clear q
        go_wp2_with fail
        exact ⟨⟨k + 1, by omega, by go_num, bCall hb b1, hp'⟩, by simp [intOf]; omega⟩
      · have hres : Hid (badI l = (k : Int)) := by
          show _ = _
          unfold badI
          rw [findIdx_prefix hp.out hx.out hg]
        rw [hg] at q
        clear hg
        go_wp2_with fail
        (with_reducible refine q.mono ?_)
        rintro e w1 ⟨rfl, b1⟩
        clear q
        go_wp2_with fail
        go_ret
        exact ⟨ret_int hres.out.symm, bCall hb b1⟩
    · have hres : Hid (badI l = -1) := by
        have := hp.out
        rw [List.take_of_length_le (by omega)] at this
        show _ = _
        unfold badI
        rw [findIdx_none this]
      go_wp2_with fail
      go_ret
      exact ⟨ret_int hres.out.symm, hb⟩

theorem badI_good {l : List Ltr} : decide (0 ≤ badI l) = !(l.all Ltr.good) := by
  cases h : l.all Ltr.good
  · obtain ⟨y, hy, hb⟩ := List.all_eq_false.1 h
    unfold badI
    cases hf : l.findIdx? (fun x => !x.good) with
    | none => rw [List.findIdx?_eq_none_iff] at hf; have := hf y hy; simp at this; exact absurd this hb
    | some k => simp
  · unfold badI
    rw [findIdx_none (fun y hy => by rw [List.all_eq_true.1 h y hy]; rfl)]
    simp
theorem contains_bad (A : Option Addr) (n c : Nat) (l : List Ltr) (W : World) (hA : Rd W W.heap.size 6 A n (l.flatMap Ltr.cl)) (hn : n ≤ 9223372036854775807) :
    Calls Tryd.prog 55 #[.slice A n c, .func (.func 56) #[] #[]] W (Ret (.bool !(l.all Ltr.good)) W) := by
  have q := index_bad A n c l W hA hn
  have hg := badI_good (l := l)
  generalize badI l = i at *
  cases hall : (!(l.all Ltr.good))
  all_goals
    rw [hall] at hg
    have hg' := Lib.hid hg
    have h1 := hg
    simp at h1
    clear hg hall
    go_enter Tryd.func55, Tryd.ntmps55
    go_wp2_with fail
    (with_reducible refine q.mono ?_)
    rintro e w1 ⟨rfl, b1⟩
    clear q
    go_wp2_with fail
    go_ret
    exact ⟨by first | rfl | exact ret_bool hg'.out, b1⟩

/-- The error of letters. -/
def chkL (l : List Ltr) : Int := if 64 < l.length then 2 else if l.all Ltr.good = true then 0 else 100
theorem equal_chk (A : Option Addr) (n c : Nat) (l : List Ltr) (W : World) (hA : Rd W W.heap.size 6 A n (l.flatMap Ltr.cl)) (hn : n ≤ 9223372036854775807) :
    Calls Tryd.prog 31 #[.slice A n c] W (Ret (.int .i64 (chkL l)) W) := by
  obtain rfl : l.length = n := Ltrs_length hA
  by_cases h : 64 < l.length
  · have hv : Hid (chkL l = 2) := if_pos h
    go_enter Tryd.func31, Tryd.ntmps31
    go_wp2_with fail
    go_ret
    exact ⟨ret_int hv.out.symm, bRefl _⟩
  · have q := contains_bad A _ c l W hA hn
    have hv : chkL l = if l.all Ltr.good = true then 0 else 100 := if_neg h
    cases hg : l.all Ltr.good
    all_goals
      rw [hg] at hv q
      have Hv := Lib.hid hv
      clear hv hg
      go_enter Tryd.func31, Tryd.ntmps31
      go_wp2_with fail
      (with_reducible refine q.mono ?_)
      rintro e w1 ⟨rfl, b1⟩
      clear q
      go_wp2_with fail
      go_ret
      exact ⟨ret_int Hv.out.symm, b1⟩
end Go.Proofs.YtoeobcmmafncmaaDoor
