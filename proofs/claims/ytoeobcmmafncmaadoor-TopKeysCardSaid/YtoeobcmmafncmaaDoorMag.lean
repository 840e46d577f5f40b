/-
  Bytes put together: Grow, Concat, walked.
-/
import Derived.Test.YtoeobcmmafncmaaDoorMaf
import Derived.Lib.AppendZerosOnto
namespace Go.Proofs.YtoeobcmmafncmaaDoor
open Go.RowKit

theorem byte_info : (Tryd.prog.info? 5).map (fun i => (i.zero, i.size, i.bytes)) = some (some (.int .u8 0), 1, 1) := by kernel_rfl

set_option maxRecDepth 100000 in
set_option maxHeartbeats 1000000 in
/-- Room is made for n bytes. -/
theorem grow_nil (n : Nat) (w : World) (hn : n ≤ 70368744177664) :
    Calls Tryd.prog 88 #[.slice none 0 0, .int .i64 n] w fun r w' => ∃ v, r = .returned v ∧ Below w.heap.size w w' ∧ w'.ownsRow w.heap.size 5 1 v 0 [] := by
  rcases Nat.eq_zero_or_pos n with rfl | h0
  · go_enter Tryd.func88, Tryd.ntmps88
    go_wp2
    go_ret
    exact ⟨_, rfl, bRefl _, World.ownsRow_nil _ _ _ _⟩
  · obtain ⟨i0, hi, hz0, hz1, hz2⟩ := info_parts byte_info
    have hrz : ∀ ty, (Builtin.append_ #[24, 3] ty #[.slice none 0 0, .int .i64 (n : Int)]).run Tryd.prog w =
        .ok (.slice (some ⟨w.heap.size, 0, none⟩) (0 + n) (grownCap w (0 + n) 0 5)) (w.drew.alloc (.cells (([] : List Value).toArray ++ Builtin.zeroCells (Value.int .u8 0).cells n ++ Builtin.zeroCells (Value.int .u8 0).cells (grownCap w (0 + n) 0 5 - (0 + n))) 5)) := fun ty =>
      Lib.run_append_grow_zeros (P := Tryd.prog) w 24 3 ty 5 i0 (.int .u8 0) .i64 .i64 Tryd.underlying24 Tryd.underlying3 hi hz0 none 0 0 [] (run_firstCells_none w.drew i0.size 0 0 0) n h0 (by omega) (by omega) (by omega) (by rw [hz2]; omega)
        (by rw [hz2]; exact growslice_fits (by omega) (by omega))
    have hGn : 0 + n ≤ grownCap w (0 + n) 0 5 := grownCap_ge w _ _ _
    have hG63 := grownCap_le_maxLen w (0 + n) 0 5 (by unfold maxLen; omega)
    have hz : (Value.int .u8 0).cells.size = 1 := rfl
    obtain ⟨G, hG⟩ : ∃ G, G = grownCap w (0 + n) 0 5 := ⟨_, rfl⟩
    obtain ⟨cur, hcur⟩ : ∃ cur, cur = (([] : List Value).toArray ++ Builtin.zeroCells (Value.int .u8 0).cells n ++ Builtin.zeroCells (Value.int .u8 0).cells (G - (0 + n))) := ⟨_, rfl⟩
    have hsz : Hid (cur.size = G * 1) := by
      show _ = _
      rw [hcur]
      have e : ∀ k, (Builtin.zeroCells (Value.int .u8 0).cells k).size = k := fun k => by rw [size_zeroCells, hz]; omega
      rw [Array.size_append, Array.size_append, e, e]
      rw [← hG] at hGn
      simp
      omega
    rw [← hG] at hrz hGn hG63
    rw [← hcur] at hrz
    rw [Nat.zero_add] at hrz hGn
    clear hG hcur
    go_enter Tryd.func88, Tryd.ntmps88
    go_wp2_with (at_builtin; refine Lib.wpList_append_run _ rfl _ _ _ _ rfl _ _ rfl rfl _ _ (hrz _) ?_)
    go_ret
    refine ⟨_, rfl, bDr (bAl (bRefl _) _), rfl, .inr ⟨w.heap.size, G, cur, rfl, Nat.le_refl _, ?_, Nat.zero_le _, hG63, hsz.out, by simp⟩⟩
    exact Blk.new w 5 cur _ rfl

/-- A slice of bytes among others. -/
structure BSl where
  A : Option Addr
  c : Nat
  l : List Nat
def BSl.val (x : BSl) : Value := .slice x.A x.l.length x.c
def BSl.ok (w : World) (x : BSl) : Prop := Rd w w.heap.size 1 x.A x.l.length (byts x.l) ∧ (x.A = none → x.l.length = 0 ∧ x.c = 0)
def joinN (xs : List BSl) : List Nat := xs.flatMap BSl.l
theorem joinN_snoc (xs : List BSl) (x : BSl) : joinN (xs ++ [x]) = joinN xs ++ x.l := by simp [joinN]
theorem joinN_take {xs : List BSl} {k : Nat} {x : BSl} (h : xs[k]? = some x) : joinN (xs.take (k + 1)) = joinN (xs.take k) ++ x.l := by
  obtain ⟨hk, rfl⟩ := List.getElem?_eq_some_iff.1 h
  rw [List.take_succ_eq_append_getElem hk, joinN_snoc]
theorem joinN_le (xs : List BSl) (k : Nat) : (joinN (xs.take k)).length ≤ (joinN xs).length := by
  have h : joinN xs = joinN (xs.take k) ++ joinN (xs.drop k) := by
    unfold joinN; rw [← List.flatMap_append, List.take_append_drop]
  rw [h, List.length_append]; omega
/-- Element k of a slice of slices of bytes. -/
theorem BSl_at {w : World} {B n k : Nat} {S : Option Addr} {xs : List BSl} {x : BSl} (h : Rd w B 1 S n (xs.map BSl.val)) (hn : k < n) (hx : xs[k]? = some x) :
    ∃ b off, S = some ⟨b, off, none⟩ ∧ b < B ∧ w.cell? ⟨b, off + k, none⟩ = some (.slice x.A x.l.length x.c) := by
  obtain ⟨b, off, hA, hb, hc⟩ := h.2 (by omega)
  exact ⟨b, off, hA, hb, hc _ _ (by rw [List.getElem?_map, hx]; rfl)⟩
theorem byts_oneCell {l : List Nat} : ∀ u ∈ byts l, u.oneCell' = true := by
  intro v hv
  obtain ⟨x, _, rfl⟩ := List.mem_map.1 hv
  rfl

set_option maxRecDepth 100000 in
set_option maxHeartbeats 2000000 in
theorem concat_any (S : Option Addr) (c n : Nat) (xs : List BSl) (W : World) (hS : Rd W W.heap.size 1 S n (xs.map BSl.val)) (hx : ∀ x ∈ xs, x.ok W) (ht : (joinN xs).length ≤ 70368744177664) (hn : n ≤ 1000) :
    Calls Tryd.prog 79 #[.slice S n c] W (RetSl 1 (joinN xs).length (byts (joinN xs)) W) := by
  have hl : Hid (xs.length = n) := by have := hS.1; rw [List.length_map, Nat.mul_one] at this; exact this
  go_enter Tryd.func79, Tryd.ntmps79
  go_wp2_with fail
  go_loop [3, 11] (fun s i => ∃ k : Nat, k ≤ n ∧ i = .int .i64 k ∧ s = .int .i64 (joinN (xs.take k)).length) (fun _ i => n - (intOf i).toNat)
  case atStart => exact ⟨0, Nat.zero_le _, rfl, rfl⟩
  case round =>
    obtain ⟨k, hk, rfl, rfl⟩ := hrel
    have hle := joinN_le xs k
    by_cases hlt : k < n
    · obtain ⟨x, hxk⟩ : ∃ x, Hid (xs[k]? = some x) := ⟨_, Lib.hid (List.getElem?_eq_getElem (by rw [hl.out]; exact hlt))⟩
      obtain ⟨b, off, rfl, hbb, c0⟩ := BSl_at hS hlt hxk.out
      have hj := Lib.hid (joinN_take hxk.out)
      have hle2 := joinN_le xs (k + 1)
      rw [hj.out, List.length_append] at hle2
      go_wp2_with fail
      exact ⟨⟨k + 1, by omega, by go_num, by rw [hj.out, List.length_append]; go_num⟩, by simp [intOf]; omega⟩
    · have hkn : Hid (joinN (xs.take k) = joinN xs) := by show _ = _; rw [List.take_of_length_le (by rw [hl.out]; omega)]
      rw [hkn.out]
      go_wp2_with fail
      refine (grow_nil _ W ht).mono ?_
      rintro e w1 ⟨v, rfl, hb, hown⟩
      go_wp2_with fail
      go_loopw [6, 27] (fun v i wr => ∃ k : Nat, k ≤ n ∧ i = .int .i64 k ∧ Below W.heap.size W wr ∧ wr.ownsRow W.heap.size 5 1 v (joinN (xs.take k)).length (byts (joinN (xs.take k)))) (fun _ i _ => n - (intOf i).toNat)
      case atStart => exact ⟨0, Nat.zero_le _, rfl, hb, hown⟩
      case round =>
        clear hb hown hlt
        obtain ⟨k2, hk2, rfl, hb, hown⟩ := hrel
        have hle := joinN_le xs k2
        by_cases hlt : k2 < n
        · obtain ⟨x, hxk⟩ : ∃ x, Hid (xs[k2]? = some x) := ⟨_, Lib.hid (List.getElem?_eq_getElem (by rw [hl.out]; exact hlt))⟩
          obtain ⟨b, off, rfl, hbb, c0⟩ := BSl_at (hS.below hb) hlt hxk.out
          obtain ⟨hxr, hxn⟩ := hx x (List.mem_of_getElem? hxk.out)
          have hxr2 := hxr.below hb
          have hj := Lib.hid (joinN_take hxk.out)
          have hle2 := joinN_le xs (k2 + 1)
          rw [hj.out, List.length_append] at hle2
          have hbs := hb.size
          have hml : (joinN (xs.take k2)).length + x.l.length ≤ maxLen := by unfold maxLen; omega
          have hby : ((joinN (xs.take k2)).length + x.l.length) * 1 ≤ 140737488355328 := by omega
          go_wp2_with (at_builtin; refine wpList_appendS (.tmp 31) (.tmp 32) 24 W.heap.size 5 (.int .u8 0) 1 1 u6 (joinN (xs.take k2)).length (byts (joinN (xs.take k2))) x.A x.l.length x.c W.heap.size (byts x.l) rfl rfl Tryd.underlying24 byte_info rfl (by omega) rfl hown rfl hxr2 hxn byts_oneCell hml hby hbs ?_; intro v' w' hown4 hbw hgw)
          go_roundw
          case rel => exact ⟨k2 + 1, by omega, by go_num, hb.trans hbw, by rw [hj.out, List.length_append]; simpa [byts] using hown4⟩
          case measure => simp [intOf]; omega
        · have hkn2 : Hid (joinN (xs.take k2) = joinN xs) := by show _ = _; rw [List.take_of_length_le (by rw [hl.out]; omega)]
          rw [hkn2.out] at hown
          go_wp2_with fail
          go_ret
          exact ⟨_, rfl, hb, Sl.of_own hown⟩

end Go.Proofs.YtoeobcmmafncmaaDoor

/-
  Digests as values: stored into a block that has just been made, read out of one.
-/
namespace Go.Proofs.YtoeobcmmafncmaaDoor
open Go.RowKit

theorem setRow_alloc (w : World) (cur cs : Array Value) (t : TypeId) : (w.alloc (.cells cur t)).setRow w.heap.size cs = w.alloc (.cells cs t) := by
  have h : ((w.heap.push (.cells cur t)).modify w.heap.size fun o => match o with | .cells _ t fr => .cells cs t fr | o => o) = w.heap.push (.cells cs t) := by
    apply Array.ext_getElem?
    intro i
    rw [Array.getElem?_modify, Array.getElem?_push, Array.getElem?_push]
    by_cases hi : i = w.heap.size
    · subst hi; simp
    · have hi' : ¬ w.heap.size = i := fun e => hi e.symm
      simp [hi, hi']
  unfold World.setRow World.alloc
  simp only [World.mk.injEq, and_true]
  exact h
theorem store_new {P : Program} (w : World) (t : TypeId) (cur : Array Value) (vs : List Value) (hl : vs.length = cur.size) (h1 : ∀ v ∈ vs, v.oneCell' = true) :
    (storeCells ⟨w.heap.size, 0, none⟩ vs).run P (w.alloc (.cells cur t)) = .ok () (w.alloc (.cells vs.toArray t)) := by
  have h := run_storeCells_at P w.heap.size 0 t vs 0 cur (w.alloc (.cells cur t)) (Blk.new w t cur _ rfl) (by omega) h1
  rw [h, ← setRow_alloc w cur vs.toArray t]
  congr 2
  simp [hl]
/-- A digest into a new block. -/
theorem store_dig (l : List Nat) (hl : l.length = 32) (w : World) : (storeCells ⟨w.heap.size, 0, none⟩ (byts l)).run Tryd.prog (w.alloc (.cells #[.int .u8 0, .int .u8 0, .int .u8 0, .int .u8 0, .int .u8 0, .int .u8 0, .int .u8 0, .int .u8 0, .int .u8 0, .int .u8 0, .int .u8 0, .int .u8 0, .int .u8 0, .int .u8 0, .int .u8 0, .int .u8 0, .int .u8 0, .int .u8 0, .int .u8 0, .int .u8 0, .int .u8 0, .int .u8 0, .int .u8 0, .int .u8 0, .int .u8 0, .int .u8 0, .int .u8 0, .int .u8 0, .int .u8 0, .int .u8 0, .int .u8 0, .int .u8 0] 30)) = .ok () (w.alloc (.cells (byts l).toArray 30)) :=
  store_new w _ _ (byts l) (by rw [byts_length, hl]; rfl) byts_oneCell

end Go.Proofs.YtoeobcmmafncmaaDoor
