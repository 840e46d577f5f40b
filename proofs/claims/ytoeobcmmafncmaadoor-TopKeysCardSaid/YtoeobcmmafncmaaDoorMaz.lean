/-
  equal.Prove, of a secret and an element.
-/
import Derived.Test.YtoeobcmmafncmaaDoorMay
import Derived.Deep.DeepCutAuto
import Derived.Laws.MakeOwn
namespace Go.Proofs.YtoeobcmmafncmaaDoor
open Go.RowKit

def nonS : ByteArray := ⟨#[101, 113, 117, 97, 108, 32, 110, 111, 110, 99, 101]⟩
def nonH (s a : Int) : Nat := hashV (sb nonS) (encN [.int s, .int a])
def nonV (s a : Int) : Int := if (nonH s a : Int) ≤ 1 then (1 : Int) else (nonH s a : Int)
theorem nonV_rng (s a : Int) : 1 ≤ nonV s a ∧ nonV s a < 1073741789 := by
  have := hashV_lt (sb nonS) (encN [.int s, .int a])
  unfold nonV nonH
  split <;> omega
def provE (s a : Int) : Int := (chalV (powV 4 s) a (powV a s) (powV 4 (nonV s a)) (powV a (nonV s a)) : Nat)
def provS (s a : Int) : Int := (nonV s a + provE s a * s) % 1073741789
theorem provE_rng (s a : Int) : 0 ≤ provE s a ∧ provE s a < 1073741789 := by
  unfold provE chalV
  have := hashV_lt (sb chalS) (encN [.int (powV 4 s), .int a, .int (powV a s), .int (powV 4 (nonV s a)), .int (powV a (nonV s a))])
  omega
theorem inI_of {a : Int} (h1 : 1 ≤ a) (h2 : a < 2147483579) : inI a := ⟨by omega, by omega⟩
theorem powV_inI (a n : Int) : inI (powV a n) := by have := powV_inP a n; unfold inP at this; exact ⟨by omega, by omega⟩
theorem mul_rngQ {a b : Int} (ha : 0 ≤ a) (hb : 0 ≤ b) (ha2 : a < 1073741789) (hb2 : b < 1073741789) : 0 ≤ a * b ∧ a * b ≤ 1152921500000000000 := by
  refine ⟨Int.mul_nonneg ha hb, ?_⟩
  have h : a * b ≤ 1073741788 * 1073741788 := Int.mul_le_mul (by omega) (by omega) hb (by omega)
  omega

set_option maxRecDepth 100000 in
set_option maxHeartbeats 4000000 in
theorem equal_prove (s a : Int) (W : World) (hs : secB s = true) (ha : validB a = true) (hG : ShaG W) :
    Calls Tryd.prog 33 #[.int .i64 s, .int .i64 a] W (Ret (.tuple #[.int .i64 (powV a s), .agg #[.int .i64 (provE s a), .int .i64 (provS s a)], .int .i64 0]) W) := by
  obtain ⟨s1, s2⟩ := secB_rng hs
  obtain ⟨a1, a2⟩ := validB_rng ha
  have Hd : Hid (powV a s = powV a s) := rfl
  obtain ⟨W1, hW1⟩ : ∃ W1, W1 = W.alloc (.cells #[.int .i64 0, .int .i64 0] 95) := ⟨_, rfl⟩
  have h1 : Below W.heap.size W W1 := by rw [hW1]; exact bAl (bRefl W) _
  have B1 : Blk W1 W.heap.size 95 #[.int .i64 0, .int .i64 0] := by rw [hW1]; exact Blk.new _ _ _ _ rfl
  have q1 := el_public s W1
  have e1 : pubV s = powV 4 s := if_pos hs
  have e2 : pubE s = 0 := by unfold pubE; rw [if_pos hs]; unfold powE; rw [if_pos valid_four]
  rw [e1, e2] at q1
  have Ha : Hid (powE a = 0) := by show _ = _; unfold powE; rw [if_pos ha]
  clear e1 e2 hs ha Hd
  go_enter Tryd.func33, Tryd.ntmps33
  go_upto_region 1 with fail
  rw [← hW1]
  clear hW1
  go_wp2_with fail
  (with_reducible refine q1.mono ?_)
  rintro e w2 ⟨rfl, b2⟩
  clear q1
  replace B1 := B1.below b2 B1.lt
  replace h1 := bCall h1 b2
  clear b2
  have q2 := group_pow a s w2
  rw [Ha.out] at q2
  go_wp2_with fail
  (with_reducible refine q2.mono ?_)
  rintro e w3 ⟨rfl, b3⟩
  clear q2
  replace B1 := B1.below b3 B1.lt
  replace h1 := bCall h1 b3
  clear b3
  go_wp2_with fail
  refine (equal_text _ 2 2 [s, a] _ (by exact Rd.new w3 (ints [s, a]) _ 1 2 _ rfl rfl) (by
    intro x hx
    simp only [List.mem_cons, List.not_mem_nil, or_false] at hx
    rcases hx with rfl | rfl
    · exact ⟨by omega, by omega⟩
    · exact ⟨by omega, by omega⟩) (by omega)).mono ?_
  rintro e w4 ⟨v, rfl, b4, A2, c2, rfl, hR, _, _, hnil⟩
  replace b4 := bCall (bAl (bRefl w3) _) b4
  replace B1 := B1.below b4 B1.lt
  replace h1 := bCall h1 b4
  clear b4
  have hl := encN_len (l := [.int s, .int a]) (by
    intro x hx
    simp only [List.mem_cons, List.not_mem_nil, or_false] at hx
    rcases hx with rfl | rfl
    · exact ⟨by omega, by omega⟩
    · exact ⟨by omega, by omega⟩) (by simp)
  have q := hash_any nonS A2 _ c2 _ w4 hR hnil (okB_encN _) (by decide) (Nat.le_trans hl (by decide)) (hG.below h1)
  have q3 : Calls Tryd.prog 58 #[.string ⟨#[101, 113, 117, 97, 108, 32, 110, 111, 110, 99, 101]⟩, .slice A2 (encN [.int s, .int a]).length c2] w4 (Ret (.int .i64 (nonH s a : Nat)) w4) := q
  clear hl hR hnil q
  go_wp2_with fail
  (with_reducible refine q3.mono ?_)
  rintro e w5 ⟨rfl, b5⟩
  clear q3
  replace B1 := B1.below b5 B1.lt
  replace h1 := bCall h1 b5
  clear b5
  have hr := nonV_rng s a
  have hE := provE_rng s a
  have HE : Hid (((chalV (powV 4 s) a (powV a s) (powV 4 (nonV s a)) (powV a (nonV s a)) : Nat) : Int) = provE s a) := rfl
  have HS : Hid ((nonV s a + provE s a * s) % 1073741789 = provS s a) := rfl
  have hv : nonV s a = if (nonH s a : Int) ≤ 1 then (1 : Int) else (nonH s a : Int) := rfl
  have hm := mul_rngQ hE.1 (show 0 ≤ s by omega) hE.2 s2
  generalize provE s a = E at *
  generalize provS s a = S at *
  obtain ⟨m1, m2⟩ := hm
  obtain ⟨E1, E2⟩ := hE
  obtain ⟨hr1, hr2⟩ := hr
  by_cases h : (nonH s a : Int) ≤ 1
  all_goals
    first | rw [if_pos h] at hv | rw [if_neg h] at hv
    rw [hv] at HE HS hr1 hr2
    clear hv
    go_wp2_with fail
    (with_reducible refine (equal_pow 4 _ _).mono ?_)
    rintro e w6 ⟨rfl, b6⟩
    replace B1 := B1.below b6 B1.lt
    replace h1 := bCall h1 b6
    clear b6
    go_wp2_with fail
    (with_reducible refine (equal_pow a _ _).mono ?_)
    rintro e w7 ⟨rfl, b7⟩
    replace B1 := B1.below b7 B1.lt
    replace h1 := bCall h1 b7
    clear b7
    go_wp2_with fail
    (with_reducible refine (challenge_any (powV 4 s) a (powV a s) _ _ _ (powV_inI _ _) (inI_of a1 a2) (powV_inI _ _) (powV_inI _ _) (powV_inI _ _) (hG.below h1)).mono ?_)
    rintro e w8 ⟨rfl, b8⟩
    rw [HE.out]
    replace B1 := B1.below b8 B1.lt
    replace h1 := bCall h1 b8
    clear b8 HE
    obtain ⟨x0, x1⟩ := B1.two
    have z0 := B1.frozen 0
    have z1 := B1.frozen 1
    go_upto_region 10 with fail
    rw [HS.out]
    have B2 : Blk ((w8.setCell ⟨W.heap.size, 0, none⟩ (.int .i64 E)).setCell ⟨W.heap.size, 1, none⟩ (.int .i64 S)) W.heap.size 95 #[.int .i64 E, .int .i64 S] := by simpa using (B1.set_ 0 (.int .i64 E)).set_ 1 (.int .i64 S)
    have h2 := bSet (bSet h1 (p := ⟨W.heap.size, 0, none⟩) (Nat.le_refl _) (.int .i64 E)) (p := ⟨W.heap.size, 1, none⟩) (Nat.le_refl _) (.int .i64 S)
    clear x0 x1 z0 z1 B1 h1 HS
    generalize (w8.setCell ⟨W.heap.size, 0, none⟩ (.int .i64 E)).setCell ⟨W.heap.size, 1, none⟩ (.int .i64 S) = w9 at *
    have KS : Hid (∀ w', Below w9.heap.size w9 w' → _) := Lib.hid (fun w' h => (B2.below h B2.lt).two)
    refine wp_region_maskB (f := 3) (n := 1) KS [1, 2, 0, 0, 0] ?_
    simp only [pickH, pickT]
    refine wpHeads_t ?_
    refine wpHeads_r ?_
    refine wpHeads_nil ?_
    iterate 1 (refine wpTailS_cons (fun K hK => ?_); go_simp; (first | (fail) | skip); refine mask_go hK KS ?_; clear hK K)
    refine wpTailS_zero ?_
    refine wpList_store_row (by rfl) 95 (.tmp 5) (.tmp 53) (by rfl) W.heap.size #[.int .i64 E, .int .i64 S] (by rfl) (by rfl) 95 _ B2 (by kernel_rfl) (by rfl) (by simp [Value.oneCell']) ?_
    have B3 : Blk (w9.drew.setRow W.heap.size #[.int .i64 E, .int .i64 S]) W.heap.size 95 #[.int .i64 E, .int .i64 S] := setRow_heap w9.drew W.heap.size _ _ 95 _ B2
    have h3 := below_setRow (bDr h2) (Nat.le_refl _) #[.int .i64 E, .int .i64 S]
    generalize w9.drew.setRow W.heap.size #[.int .i64 E, .int .i64 S] = w10 at *
    clear B2 h2 KS
    obtain ⟨e0, e1⟩ := B3.two
    go_wp2_with fail
    refine NoPanic.normal ?_
    go_wp2_with fail
    exact bodyPost_ret (v := .tuple #[.int .i64 (powV a s), .agg #[.int .i64 E, .int .i64 S], .int .i64 0]) (by simp [results, Tryd.results33, go_sem, e0, e1]) rfl ⟨rfl, h3⟩
end Go.Proofs.YtoeobcmmafncmaaDoor

/-
  equal.Bare: what it writes, in plain words.
-/
namespace Go.Proofs.YtoeobcmmafncmaaDoor
open Go.RowKit

def Ltr.setAt (x : Ltr) (k : Fin 3) (a b : Int) : Ltr := match k with
  | 0 => { x with a0 := a, b0 := b }
  | 1 => { x with a1 := a, b1 := b }
  | 2 => { x with a2 := a, b2 := b }
theorem Ltr.setAt_same (x : Ltr) (k : Fin 3) (a b : Int) : (x.setAt k a b).aAt k = a ∧ (x.setAt k a b).bAt k = b := by match k with | 0 => exact ⟨rfl, rfl⟩ | 1 => exact ⟨rfl, rfl⟩ | 2 => exact ⟨rfl, rfl⟩
theorem Ltr.setAt_other (x : Ltr) (k j : Fin 3) (a b : Int) (h : j ≠ k) : (x.setAt k a b).aAt j = x.aAt j ∧ (x.setAt k a b).bAt j = x.bAt j := by
  match k, j with
  | 0, 0 => exact absurd rfl h
  | 0, 1 => exact ⟨rfl, rfl⟩
  | 0, 2 => exact ⟨rfl, rfl⟩
  | 1, 0 => exact ⟨rfl, rfl⟩
  | 1, 1 => exact absurd rfl h
  | 1, 2 => exact ⟨rfl, rfl⟩
  | 2, 0 => exact ⟨rfl, rfl⟩
  | 2, 1 => exact ⟨rfl, rfl⟩
  | 2, 2 => exact absurd rfl h
theorem Ltr.ext_at {x y : Ltr} (h : ∀ k, x.aAt k = y.aAt k ∧ x.bAt k = y.bAt k) : x = y := by
  obtain ⟨a0, b0⟩ := h 0
  obtain ⟨a1, b1⟩ := h 1
  obtain ⟨a2, b2⟩ := h 2
  cases x; cases y
  simp only [Ltr.aAt, Ltr.bAt] at *
  subst a0; subst b0; subst a1; subst b1; subst a2; subst b2
  rfl
/-- One cipher is written. -/
def wrZ {l : List Ltr} (f : Int → Int → Int × Int) (st : List Ltr) (z : Pl l) : List Ltr := st.set z.i ((st.getD z.i zeroL).setAt z.k (f z.a z.b).1 (f z.a z.b).2)
theorem wrZ_length {l : List Ltr} (f : Int → Int → Int × Int) (st : List Ltr) (z : Pl l) : (wrZ f st z).length = st.length := by simp [wrZ]
/-- A letter, each cipher by itself. -/
def Ltr.by (f : Int → Int → Int × Int) (x : Ltr) : Ltr := ⟨(f x.a0 x.b0).1, (f x.a0 x.b0).2, (f x.a1 x.b1).1, (f x.a1 x.b1).2, (f x.a2 x.b2).1, (f x.a2 x.b2).2⟩
theorem Ltr.by_at (f : Int → Int → Int × Int) (x : Ltr) (k : Fin 3) : (x.by f).aAt k = (f (x.aAt k) (x.bAt k)).1 ∧ (x.by f).bAt k = (f (x.aAt k) (x.bAt k)).2 := by match k with | 0 => exact ⟨rfl, rfl⟩ | 1 => exact ⟨rfl, rfl⟩ | 2 => exact ⟨rfl, rfl⟩
theorem snocInd {α : Type} {P : List α → Prop} (h0 : P []) (h1 : ∀ l x, P l → P (l ++ [x])) (l : List α) : P l := by
  have : ∀ r : List α, P r.reverse := fun r => by
    induction r with
    | nil => exact h0
    | cons x r ih => rw [List.reverse_cons]; exact h1 _ _ ih
  simpa using this l.reverse
theorem wr_foldl {l : List Ltr} (f : Int → Int → Int × Int) (pre : List (Pl l)) : (pre.foldl (wrZ f) (List.replicate l.length zeroL)).length = l.length ∧
    ∀ z ∈ pre, ((pre.foldl (wrZ f) (List.replicate l.length zeroL)).getD z.i zeroL).aAt z.k = (f z.a z.b).1 ∧ ((pre.foldl (wrZ f) (List.replicate l.length zeroL)).getD z.i zeroL).bAt z.k = (f z.a z.b).2 := by
  refine snocInd (P := fun pre => (pre.foldl (wrZ f) (List.replicate l.length zeroL)).length = l.length ∧
    ∀ z ∈ pre, ((pre.foldl (wrZ f) (List.replicate l.length zeroL)).getD z.i zeroL).aAt z.k = (f z.a z.b).1 ∧ ((pre.foldl (wrZ f) (List.replicate l.length zeroL)).getD z.i zeroL).bAt z.k = (f z.a z.b).2) ?_ ?_ pre
  · exact ⟨by simp, fun z hz => by cases hz⟩
  · intro pre w ih
    obtain ⟨h1, h2⟩ := ih
    rw [List.foldl_append]
    simp only [List.foldl_cons, List.foldl_nil]
    generalize pre.foldl (wrZ f) (List.replicate l.length zeroL) = st at *
    refine ⟨by rw [wrZ_length, h1], fun z hz => ?_⟩
    have hlt : w.i < st.length := by rw [h1]; exact w.hi
    by_cases hi : z.i = w.i
    · have hget : (wrZ f st w).getD z.i zeroL = (st.getD w.i zeroL).setAt w.k (f w.a w.b).1 (f w.a w.b).2 := by
        rw [hi]; unfold wrZ
        rw [List.getD_eq_getElem?_getD, List.getElem?_set_self hlt]; rfl
      rw [hget]
      by_cases hk : z.k = w.k
      · have hzw : z = w := by cases z; cases w; simp only at hi hk; subst hi; subst hk; rfl
        subst hzw
        exact Ltr.setAt_same _ _ _ _
      · have := Ltr.setAt_other (st.getD w.i zeroL) w.k z.k (f w.a w.b).1 (f w.a w.b).2 hk
        rw [this.1, this.2]
        rcases List.mem_append.1 hz with hz | hz
        · have := h2 z hz; rw [hi] at this; exact this
        · obtain rfl : z = w := by simpa using hz
          exact absurd rfl hk
    · have hget : (wrZ f st w).getD z.i zeroL = st.getD z.i zeroL := by
        unfold wrZ
        rw [List.getD_eq_getElem?_getD, List.getElem?_set_ne (fun e => hi e.symm), ← List.getD_eq_getElem?_getD]
      rw [hget]
      rcases List.mem_append.1 hz with hz | hz
      · exact h2 z hz
      · obtain rfl : z = w := by simpa using hz
        exact absurd rfl hi
theorem wr_done {l : List Ltr} (f : Int → Int → Int × Int) {pre : List (Pl l)} (h : ∀ z : Pl l, z ∈ pre) : pre.foldl (wrZ f) (List.replicate l.length zeroL) = l.map (Ltr.by f) := by
  obtain ⟨h1, h2⟩ := wr_foldl f pre
  apply List.ext_getElem?
  intro i
  rcases Nat.lt_or_ge i l.length with hi | hi
  · have hk : ∀ k, ((pre.foldl (wrZ f) (List.replicate l.length zeroL)).getD i zeroL).aAt k = ((l[i]).by f).aAt k ∧ ((pre.foldl (wrZ f) (List.replicate l.length zeroL)).getD i zeroL).bAt k = ((l[i]).by f).bAt k := fun k => by
      have := h2 ⟨i, k, hi⟩ (h _)
      have hb := Ltr.by_at f l[i] k
      exact ⟨this.1.trans hb.1.symm, this.2.trans hb.2.symm⟩
    have he := Ltr.ext_at hk
    rw [List.getElem?_map, List.getElem?_eq_getElem hi, List.getElem?_eq_getElem (by rw [h1]; exact hi)]
    rw [List.getD_eq_getElem?_getD, List.getElem?_eq_getElem (by rw [h1]; exact hi)] at he
    exact congrArg some he
  · rw [List.getElem?_eq_none (by rw [h1]; exact hi), List.getElem?_eq_none (by simpa using hi)]
/-- The cells of a letter that is written. -/
theorem setAt_cl (x : Ltr) (k : Fin 3) (a b : Int) : (x.setAt k a b).cl = (x.cl.set (k.val * 2) (.int .i64 a)).set (k.val * 2 + 1) (.int .i64 b) := by match k with | 0 => rfl | 1 => rfl | 2 => rfl
theorem flat_set {st : List Ltr} : ∀ {i j : Nat} {v : Value} (x y : Ltr), st[i]? = some x → j < 6 → y.cl = x.cl.set j v → (st.set i y).flatMap Ltr.cl = (st.flatMap Ltr.cl).set (i * 6 + j) v := by
  induction st with
  | nil => intro i j v x y h; simp at h
  | cons s st ih =>
    intro i j v x y h hj he
    cases i with
    | zero =>
      obtain rfl : s = x := by simpa using h
      rw [List.set_cons_zero, List.flatMap_cons, List.flatMap_cons, he, Nat.zero_mul, Nat.zero_add, List.set_append_left _ _ (by rw [Ltr.cl_length]; exact hj)]
    | succ i =>
      rw [List.set_cons_succ, List.flatMap_cons, List.flatMap_cons, ih x y (by simpa using h) hj he, List.set_append_right _ _ (by rw [Ltr.cl_length]; omega), Ltr.cl_length]
      congr 2
      omega
theorem wrZ_cells {l : List Ltr} (f : Int → Int → Int × Int) (st : List Ltr) (z : Pl l) (hz : z.i < st.length) :
    ((wrZ f st z).flatMap Ltr.cl).toArray = (((st.flatMap Ltr.cl).toArray.setIfInBounds (z.i * 6 + z.k.val * 2) (.int .i64 (f z.a z.b).1)).setIfInBounds (z.i * 6 + z.k.val * 2 + 1) (.int .i64 (f z.a z.b).2)) := by
  obtain ⟨x, hx⟩ : ∃ x, st[z.i]? = some x := ⟨_, List.getElem?_eq_getElem hz⟩
  have hk := z.k.isLt
  have e : st.getD z.i zeroL = x := by rw [List.getD_eq_getElem?_getD, hx]; rfl
  unfold wrZ
  rw [e]
  generalize (f z.a z.b).1 = a at *
  generalize (f z.a z.b).2 = b at *
  obtain ⟨i, k, hi⟩ := z
  dsimp only at *
  rw [List.setIfInBounds_toArray, List.setIfInBounds_toArray]
  congr 1
  have key : ∀ (k : Fin 3), ∃ y : Ltr, y.cl = x.cl.set (k.val * 2) (.int .i64 a) ∧ (x.setAt k a b).cl = y.cl.set (k.val * 2 + 1) (.int .i64 b) := fun k => by
    match k with
    | 0 => exact ⟨{ x with a0 := a }, rfl, rfl⟩
    | 1 => exact ⟨{ x with a1 := a }, rfl, rfl⟩
    | 2 => exact ⟨{ x with a2 := a }, rfl, rfl⟩
  obtain ⟨y, hy1, hy2⟩ := key k
  rw [← flat_set x y hx (by omega) hy1]
  have h2 := flat_set (st := st.set i y) (i := i) (j := k.val * 2 + 1) (v := .int .i64 b) y (x.setAt k a b) (List.getElem?_set_self hz) (by omega) hy2
  rw [List.set_set] at h2
  rw [h2, Nat.add_assoc]
theorem zero_cells (n : Nat) : ((List.replicate n zeroL).flatMap Ltr.cl).toArray = Array.replicate (n * 6) (.int .i64 0) := by
  have : (List.replicate n zeroL).flatMap Ltr.cl = List.replicate (n * 6) (.int .i64 0) := by
    induction n with
    | zero => rfl
    | succ n ih => rw [List.replicate_succ, List.flatMap_cons, ih, Nat.succ_mul, Nat.add_comm, ← List.replicate_append_replicate]; rfl
  rw [this]; simp

def bareF (s : Int) (a b : Int) : Int × Int := (a, mulL [b, powV (powV a s) (-1)])
def prfF (s : Int) (a _b : Int) : Int × Int := (provE s a, provS s a)
def bareX (s : Int) (l : List Ltr) : List Ltr := l.map (Ltr.by (bareF s))
def bareP (s : Int) (l : List Ltr) : List Ltr := l.map (Ltr.by (prfF s))
end Go.Proofs.YtoeobcmmafncmaaDoor
