/-
  epochs.Rest, walked.
-/
import Derived.Test.YtoeobcmmafncmaaDoorMba
import Derived.Test.YtoeobcmmafncmaaDoorMad
import Derived.Test.YtoeobcmmafncmaaDoorMbh
namespace Go.Proofs.YtoeobcmmafncmaaDoor
open Go.RowKit

/-- Products of keys, and of those that follow. -/
def restL : List Int → List Int
  | [] => [1]
  | k :: l => mulV k ((restL l).headD 1) :: restL l
theorem restL_length : ∀ l : List Int, (restL l).length = l.length + 1
  | [] => rfl
  | _ :: l => by simp [restL, restL_length l]
theorem restL_valid : ∀ {l : List Int}, (∀ k ∈ l, validB k = true) → ∀ x ∈ restL l, validB x = true
  | [], _, x, hx => by obtain rfl : x = 1 := by simpa [restL] using hx
                       exact valid_one
  | k :: l, h, x, hx => by
    have ih := restL_valid (l := l) (fun y hy => h y (List.mem_cons_of_mem _ hy))
    have hh : validB ((restL l).headD 1) = true := by
      have hl := restL_length l
      cases hr : restL l with
      | nil => rw [hr] at hl; simp at hl
      | cons a r => exact ih a (by rw [hr]; simp)
    rcases List.mem_cons.1 hx with rfl | hx
    · exact valid_mulV (h k (by simp)) hh
    · exact ih x hx
theorem restL_head {l : List Int} : ∃ r, (restL l)[0]? = some r ∧ r = (restL l).headD 1 := by
  have hl := restL_length l
  cases hr : restL l with
  | nil => rw [hr] at hl; simp at hl
  | cons a r => exact ⟨a, rfl, rfl⟩
theorem made_ints (n : Nat) : madeCells (Value.int .i64 0).cells (n * 1) = (ints (List.replicate n 0)).toArray := by
  apply Array.ext
  · rw [size_madeCells]; simp [ints]
  · intro i h1 h2
    simp only [madeCells, Array.getElem_map, Array.getElem_range, ints, List.map_replicate, List.getElem_toArray, List.getElem_replicate]
    show (#[Value.int .i64 0] : Array Value)[i % 1]! = _
    rw [Nat.mod_one]; rfl
theorem make_ints (n : Nat) (hn : n ≤ 100000) (w : World) : (Instr.makeSlice 38 (.int .i64 ((n : Int) + 1)) (.int .i64 ((n : Int) + 1))).run Tryd.prog w = .ok (.slice (some ⟨w.heap.size, 0, none⟩) (n + 1) (n + 1)) (w.alloc (.cells (ints (List.replicate (n + 1) 0)).toArray 3)) := by
  have hinf : (Tryd.prog.info? 3).map (fun i => (i.zero, i.size, i.bytes)) = some (some (.int .i64 0), 1, 8) := by kernel_rfl
  obtain ⟨i0, hi, hz0, hz1, hz2⟩ := info_parts hinf
  have := run_makeSlice (w := w) (P := Tryd.prog) 38 3 i0 (.int .i64 0) Tryd.underlying38 hi hz0 .i64 .i64 ((n : Int) + 1) ((n : Int) + 1) (by omega) (Int.le_refl _) (by rw [hz1]; omega) (by rw [hz2]; omega) (by omega)
  have e : ((n : Int) + 1).toNat = n + 1 := by omega
  rw [e, hz1, made_ints] at this
  exact this
/-- What has been reckoned from place k on. -/
theorem ints_set {l : List Int} {k : Nat} {x : Int} : (ints l).toArray.setIfInBounds k (.int .i64 x) = (ints (l.set k x)).toArray := by
  rw [List.setIfInBounds_toArray]
  unfold ints
  rw [List.map_set]
theorem rest_set {l : List Int} {k : Nat} (hk : k < l.length) : (List.replicate (k + 1) 0 ++ restL (l.drop (k + 1))).set k (mulV l[k] ((restL (l.drop (k + 1))).headD 1)) = List.replicate k 0 ++ restL (l.drop k) := by
  rw [List.drop_eq_getElem_cons hk, List.set_append_left _ _ (by simp)]
  show _ = List.replicate k 0 ++ (mulV l[k] _ :: _)
  rw [show List.replicate (k + 1) (0 : Int) = List.replicate k 0 ++ [0] from List.replicate_succ', List.set_append_right _ _ (by simp)]
  simp
theorem rest_first {l : List Int} : (List.replicate (l.length + 1) (0 : Int)).set l.length 1 = List.replicate l.length 0 ++ restL (l.drop l.length) := by
  rw [List.drop_length, show List.replicate (l.length + 1) (0 : Int) = List.replicate l.length 0 ++ [0] from List.replicate_succ', List.set_append_right _ _ (by simp)]
  simp [restL]
def RetRest (l : List Int) (w : World) (r : Ending) (w' : World) : Prop :=
  Below w.heap.size w w' ∧ ((∀ k ∈ l, validB k = true) → ∃ g, r = .returned (.tuple #[.slice (some ⟨g, 0, none⟩) (l.length + 1) (l.length + 1), .int .i64 0]) ∧ w.heap.size ≤ g ∧ Blk w' g 3 (ints (restL l)).toArray) ∧
  ((¬ ∀ k ∈ l, validB k = true) → r = .returned (.tuple #[.slice none 0 0, .int .i64 90]))

set_option maxRecDepth 100000 in
set_option maxHeartbeats 4000000 in
theorem ep_rest (A : Option Addr) (n c : Nat) (l : List Int) (W : World) (hA : Rd W W.heap.size 1 A n (ints l)) (hn : n ≤ 24) :
    Calls Tryd.prog 8 #[.slice A n c] W (RetRest l W) := by
  obtain rfl : l.length = n := by have := hA.1; rw [ints_length, Nat.mul_one] at this; exact this
  have hmk := make_ints l.length (by omega)
  go_enter Tryd.func8, Tryd.ntmps8
  go_upto_region 4 with fail
  have BG := Blk.new W 3 (ints (List.replicate (l.length + 1) 0)).toArray _ rfl
  have hb := bAl (bRefl W) (.cells (ints (List.replicate (l.length + 1) 0)).toArray 3)
  generalize W.alloc (.cells (ints (List.replicate (l.length + 1) 0)).toArray 3) = w1 at *
  have x0 := (BG.cell l.length).trans (show (ints (List.replicate (l.length + 1) 0)).toArray[l.length]? = some (.int .i64 0) by simp [ints])
  have z0 := BG.frozen l.length
  have B2 := BG.set_ l.length (.int .i64 1)
  rw [ints_set, rest_first] at B2
  have h2 := bSet hb (p := ⟨W.heap.size, l.length, none⟩) (Nat.le_refl _) (.int .i64 1)
  clear BG hmk
  go_upto_region 5 with fail
  clear x0 z0 hb
  generalize w1.setCell ⟨W.heap.size, l.length, none⟩ (.int .i64 1) = w2 at *
  go_wp2_with fail
  go_loopw [4, 2, 3] (fun i v2 v3 wr => (v2 = .slice (some ⟨W.heap.size, 0, none⟩) (l.length + 1) (l.length + 1) ∧ v3 = .int .i64 0) ∧ Below W.heap.size W wr ∧ ((∃ k : Nat, k < l.length ∧ i = .int .i64 k ∧ Hid (∀ x ∈ l.drop (k + 1), validB x = true) ∧ Blk wr W.heap.size 3 (ints (List.replicate (k + 1) 0 ++ restL (l.drop (k + 1)))).toArray) ∨
    (i = .int .i64 (-1) ∧ Hid (∀ x ∈ l, validB x = true) ∧ Blk wr W.heap.size 3 (ints (restL l)).toArray))) (fun i _ _ _ => (intOf i + 1).toNat)
  case atStart =>
    refine ⟨⟨rfl, rfl⟩, h2, ?_⟩
    rcases Nat.eq_zero_or_pos l.length with h0 | h0
    · have hl : l = [] := List.eq_nil_of_length_eq_zero h0
      right
      refine ⟨by rw [h0]; rfl, Lib.hid (by rw [hl]; simp), ?_⟩
      rw [h0] at B2
      simpa using B2
    · left
      refine ⟨l.length - 1, by omega, by rw [show ((l.length : Int) - 1) = ((l.length - 1 : Nat) : Int) from by omega], Lib.hid ?_, ?_⟩
      · rw [show l.length - 1 + 1 = l.length from by omega, List.drop_length]; simp
      · rw [show l.length - 1 + 1 = l.length from by omega]; exact B2
  case round =>
    clear B2 h2
    obtain ⟨⟨rfl, rfl⟩, hb, (⟨k, hk, rfl, hv, BG⟩ | ⟨rfl, hv, BG⟩)⟩ := hrel
    · obtain ⟨x, hx⟩ : ∃ x, Hid (l[k]? = some x) := ⟨_, Lib.hid (List.getElem?_eq_getElem hk)⟩
      obtain ⟨b, off, rfl, hbb, c0⟩ := Int_at (hA.below hb) hk hx.out
      obtain ⟨r, hr1, hr2⟩ := restL_head (l := l.drop (k + 1))
      have hrv : validB r = true := restL_valid hv.out r (List.mem_of_getElem? hr1)
      have x1 : wr.cell? ⟨W.heap.size, k + 1, none⟩ = some (.int .i64 r) := by
        rw [BG.cell]
        show (ints _).toArray[k + 1]? = _
        rw [List.getElem?_toArray]
        refine ints_at ?_
        rw [List.getElem?_append_right (by simp)]
        simpa using hr1
      have x0 : wr.cell? ⟨W.heap.size, k, none⟩ = some (.int .i64 0) := by
        rw [BG.cell]
        rw [List.getElem?_toArray]
        refine ints_at ?_
        rw [List.getElem?_append_left (by simp)]
        simp
      have z0 := BG.frozen k
      have hR2 := Lib.hid hr2
      have HR1 := Lib.hid hr1
      have HRV := Lib.hid hrv
      clear hr1 hr2 hrv
      have hsz := BG.lt
      have i0 : (0 : Int) ≤ (k : Int) := by omega
      have i1 : (k : Int) < (l.length : Int) := by omega
      have i2 : IntKind.i64.wrap ((k : Int) + 1) = (k : Int) + 1 := by rw [IntKind.wrap_i64]; omega
      have hE : mulE x r = if validB x = true then 0 else 90 := by unfold mulE; rw [HRV.out]; rfl
      have HE := Lib.hid hE
      clear hE
      cases hxv : validB x
      · have hbad : Hid (¬ ∀ k ∈ l, validB k = true) := fun h => by have := h x (List.mem_of_getElem? hx.out); rw [hxv] at this; cases this
        have q := group_mul x r wr.drew
        rw [HE.out, hxv] at q
        clear hxv HE
        go_upto_region 8 with fail
        go_region_with ((go_at_call 24; (with_reducible refine q.mono ?_); rintro e w' ⟨rfl, rfl⟩))
        all_goals
          go_wp2_with fail
          go_ret2
          exact ⟨by first | exact bDr (bSet hb (Nat.le_refl _) _) | exact bSet (bDr hb) (Nat.le_refl _) _, fun h => absurd h hbad.out, fun _ => rfl⟩
      · have hv2 : Hid (∀ x ∈ l.drop k, validB x = true) := by
          intro y hy
          obtain ⟨_, he⟩ := List.getElem?_eq_some_iff.1 hx.out
          rw [List.drop_eq_getElem_cons hk] at hy
          rcases List.mem_cons.1 hy with rfl | hy
          · rw [he]; exact hxv
          · exact hv.out y hy
        have B2 := BG.set_ k (.int .i64 (mulV x r))
        have hset : ((List.replicate (k + 1) 0 ++ restL (l.drop (k + 1))).set k (mulV x r)) = List.replicate k 0 ++ restL (l.drop k) := by
          have := rest_set hk
          obtain ⟨_, he⟩ := List.getElem?_eq_some_iff.1 hx.out
          rw [he, ← hR2.out] at this
          exact this
        rw [ints_set, hset] at B2
        have q := group_mul x r wr.drew
        rw [HE.out, hxv] at q
        clear hxv HE hset
        have hb2 := bSet hb (p := ⟨W.heap.size, k, none⟩) (Nat.le_refl _) (.int .i64 (mulV x r))
        go_upto_region 8 with fail
        go_region_with ((go_at_call 24; (with_reducible refine q.mono ?_); rintro e w' ⟨rfl, rfl⟩))
        all_goals
          go_wp2_with fail
          refine ⟨⟨⟨rfl, rfl⟩, bDr hb2, ?_⟩, by simp [intOf]⟩
          rcases Nat.eq_zero_or_pos k with h0 | h0
          · right
            subst h0
            exact ⟨rfl, Lib.hid (by have := hv2.out; simpa using this), by have := B2; simp at this; exact Blk.dr this⟩
          · left
            exact ⟨k - 1, by omega, by rw [show ((k : Int) - 1) = ((k - 1 : Nat) : Int) from by omega], Lib.hid (by rw [show k - 1 + 1 = k from by omega]; exact hv2.out), by rw [show k - 1 + 1 = k from by omega]; exact Blk.dr B2⟩
    · go_wp2_with fail
      go_ret2
      exact ⟨hb, fun _ => ⟨W.heap.size, rfl, Nat.le_refl _, BG⟩, fun h => absurd hv.out h⟩
theorem restL_at : ∀ {l : List Int} {i : Nat}, i < l.length → (restL l).getD i 0 = mulV (l.getD i 0) ((restL l).getD (i + 1) 0)
  | [], _, h => by simp at h
  | k :: l, 0, _ => by
    obtain ⟨r, h1, h2⟩ := restL_head (l := l)
    show mulV k ((restL l).headD 1) = mulV k ((restL l).getD 0 0)
    rw [List.getD_eq_getElem?_getD, h1, ← h2]; rfl
  | k :: l, i + 1, h => restL_at (l := l) (i := i) (by simpa using h)
theorem restL_last : ∀ (l : List Int), (restL l).getD l.length 0 = 1
  | [] => rfl
  | _ :: l => restL_last l
end Go.Proofs.YtoeobcmmafncmaaDoor

/-
  Cases in which nobody works: plain.
-/
namespace Go.Proofs.YtoeobcmmafncmaaDoor
open Go.RowKit

def bareLast : List Int → List Ltr → List Ltr
  | [], b => b
  | s :: ss, b => bareLast ss (bareX s b)
theorem bareLast_snoc : ∀ (ss : List Int) (b : List Ltr) (s : Int), bareLast (ss ++ [s]) b = bareX s (bareLast ss b)
  | [], _, _ => rfl
  | t :: ss, b, s => bareLast_snoc ss (bareX t b) s
theorem bareLast_chk : ∀ {ss : List Int} {b : List Ltr}, chkL b = 0 → chkL (bareLast ss b) = 0
  | [], _, h => h
  | _ :: ss, _, h => bareLast_chk (ss := ss) (chkL_bareX h)
theorem bareLast_length : ∀ (ss : List Int) (b : List Ltr), (bareLast ss b).length = b.length
  | [], _ => rfl
  | s :: ss, b => by show (bareLast ss (bareX s b)).length = _; rw [bareLast_length]; unfold bareX; simp
section
variable {ss : List Int} {first : List Ltr} {place : Int} {w : Wd} {r0 r1 r2 : Int}
end
theorem foldV_rest : ∀ {l : List Int} {c : Int}, validB c = true → (∀ k ∈ l, validB k = true) → foldV c l = some (mp c ((restL l).getD 0 0))
  | [], c, hc, _ => by
    show some c = some (mp c 1)
    rw [mp_one' hc]
  | k :: l, c, hc, h => by
    have hk := h k (by simp)
    have hl : ∀ x ∈ l, validB x = true := fun x hx => h x (List.mem_cons_of_mem _ hx)
    have hr : validB ((restL l).getD 0 0) = true := by
      rw [List.getD_eq_getElem?_getD, List.getElem?_eq_getElem (by rw [restL_length]; omega)]
      exact restL_valid hl _ (List.getElem_mem _)
    have he : (restL (k :: l)).getD 0 0 = mp k ((restL l).getD 0 0) := by
      obtain ⟨r, h1, h2⟩ := restL_head (l := l)
      show mulV k ((restL l).headD 1) = _
      have : (restL l).getD 0 0 = (restL l).headD 1 := by rw [List.getD_eq_getElem?_getD, h1, ← h2]; rfl
      rw [this] at hr ⊢
      exact mulV_eq hk hr
    rw [he]
    unfold foldV
    rw [(mulV_yes hc hk).2, if_pos rfl, mulV_eq hc hk]
    have ih := foldV_rest (l := l) (c := c * k % 2147483579) (valid_mul hc hk) hl
    rw [ih]
    show some (mp (mp c k) _) = some (mp c (mp k _))
    congr 1
    ac_rfl
/-- The joint key is what remains of all. -/
theorem join_rest {l : List Int} (h : ∀ k ∈ l, validB k = true) : joinV l = (restL l).getD 0 0 ∧ joinE l = 0 := by
  have hr : validB ((restL l).getD 0 0) = true := by
    rw [List.getD_eq_getElem?_getD, List.getElem?_eq_getElem (by rw [restL_length]; omega)]
    exact restL_valid h _ (List.getElem_mem _)
  have := foldV_rest valid_one h
  unfold joinV joinE
  rw [this]
  rw [mp_one hr]
  refine ⟨?_, ?_⟩
  · simp only [Option.getD_some]
  · simp only [Option.isSome_some, if_true]
/-- What is bared, is stripped. -/
theorem bareX_at {s : Int} {l : List Ltr} {k : Nat} {x : Ltr} (h : l[k]? = some x) (hx : x.good = true) : (bareX s l)[k]? = some (stripL s x) := by
  unfold bareX
  rw [List.getElem?_map, h]
  show some (x.by (bareF s)) = _
  refine congrArg some ?_
  refine Ltr.ext_at (fun j => ?_)
  obtain ⟨ha, hb⟩ := good_at hx j
  rw [(Ltr.by_at _ x j).1, (Ltr.by_at _ x j).2, (stripL_at s x j).1, (stripL_at s x j).2]
  unfold bareF
  dsimp only
  rw [mulL_mp hb (valid_pow (valid_pow ha _) _), powV_mul ha]
  refine ⟨rfl, ?_⟩
  rw [show s * -1 = -s by omega]
/-- In the end a letter says its words. -/
theorem bare_says {w : Wd} (hw : w.ok) : ∀ {ss : List Int} {b : List Ltr} {k : Nat} {x : Ltr}, (∀ s ∈ ss, secB s = true) → b[k]? = some x → x.good = true → Enc ((restL (ss.map pubV)).getD 0 0) w.el x →
    ∃ y, (bareLast ss b)[k]? = some y ∧ y.good = true ∧ readV y = w
  | [], b, k, x, _, hx, hg, he => ⟨x, hx, hg, enc_read hw hg he⟩
  | s :: ss, b, k, x, hs, hx, hg, he => by
    have hss : ∀ t ∈ ss, secB t = true := fun t ht => hs t (List.mem_cons_of_mem _ ht)
    have hv : ∀ q ∈ ss.map pubV, validB q = true := fun q hq => by obtain ⟨t, h1, rfl⟩ := List.mem_map.1 hq; exact pub_valid (hss t h1)
    have hr : validB ((restL (ss.map pubV)).getD 0 0) = true := by
      rw [List.getD_eq_getElem?_getD, List.getElem?_eq_getElem (by rw [restL_length]; omega)]
      exact restL_valid hv _ (List.getElem_mem _)
    have h1 := restL_at (l := (s :: ss).map pubV) (i := 0) (by simp)
    have h2 : (restL ((s :: ss).map pubV)).getD 0 0 = mp (powV 4 s) ((restL (ss.map pubV)).getD 0 0) := by
      rw [h1]
      show mulV (pubV s) ((restL (ss.map pubV)).getD 0 0) = _
      rw [pubV_eq (hs s (by simp)), mulV_eq (valid_pow valid_four s) hr]; rfl
    rw [h2] at he
    exact bare_says (ss := ss) (b := bareX s b) hw hss (bareX_at hx hg) (strip_good hg) (enc_strip hr (fun k => (elem_ok (hw k)).1) he)
end Go.Proofs.YtoeobcmmafncmaaDoor
