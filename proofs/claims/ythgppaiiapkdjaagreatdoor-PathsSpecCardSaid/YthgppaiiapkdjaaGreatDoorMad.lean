/-
  append of a slice that reads as a list, nil let in; slices of bytes as results.
-/
import Derived.Test.YthgppaiiapkdjaaGreatDoorMaa
import Derived.Laws.AppendOwnNone
import Derived.OwnWalk
import Derived.Test.YthgppaiiapkdjaaGreatDoorMac
import Derived.Lib.AppendZerosOnto
namespace Go.Proofs.YthgppaiiapkdjaaGreatDoor
open Go.RowKit

theorem addr_plus (b off j : Nat) : (⟨b, off, none⟩ : Addr).add j = ⟨b, off + j, none⟩ := by
  unfold Addr.add
  split
  · rename_i h; rw [h]; rfl
  · rfl
theorem wpList_appendS {P : Program} {ops : Array Oper} {rest : List Oper} {o : Oper} {a : Act} {Q : Exit → Act → World → Prop} {w : World} (s x : Operand) (t : TypeId)
    (base : Nat) (e : TypeId) (z : Value) (size bytes : Nat) (v : Value) (n : Nat) (xs : List Value) (A : Option Addr) (m c B : Nat) (news : List Value) (hgd : o.guard = none)
    (ho : o.op = .call { callee := .builtin .append, args := #[s, x], argTypes := #[t, t] })
    (ht : P.underlying t = some (.slice e)) (hinfo : (P.info? e).map (fun i => (i.zero, i.size, i.bytes)) = some (some z, size, bytes)) (hzs : z.cells.size = size) (hsz : 0 < size)
    (hs : a.eval s = v) (hown : w.ownsRow base e size v n xs) (hx : a.eval x = .slice A m c) (hr : Rd w B size A m news) (hnil : A = none → m = 0 ∧ c = 0) (h1 : ∀ u ∈ news, u.oneCell' = true)
    (h63 : n + m ≤ maxLen) (hbytes : (n + m) * bytes ≤ 140737488355328) (hbase : base ≤ w.heap.size)
    (h : ∀ v' w', w'.ownsRow base e size v' (n + m) (xs ++ news) → Below base w w' → w.grownBy w' v.ownBlock → wpList P ops Q rest (a.put o.dst v') w') :
    wpList P ops Q (o :: rest) a w := by
  obtain ⟨i0, hi, hz0, hz1, hz2⟩ := info_parts hinfo
  cases A with
  | none =>
    obtain ⟨rfl, rfl⟩ := hnil rfl
    have hn0 : news = [] := List.eq_nil_of_length_eq_zero (by rw [hr.1]; simp)
    subst hn0
    refine wpList_append_own_none hgd s x t ho base e i0 size ht hi v n xs hs hown hx ?_
    exact h v w (by simpa using hown) (Below.refl _ _) (World.grownBy.refl _ _)
  | some ad =>
    refine wpList_append_own w hgd s x t ho base e i0 z size bytes ht hi hz0 hz1 hz2 hzs hsz v n xs hs hown ad m c news hx hr.1 ?_ h1 h63 hbytes hbase ?_
    · intro j u hj
      rcases Nat.eq_zero_or_pos m with h0 | h0
      · subst h0
        have hn0 : news = [] := List.eq_nil_of_length_eq_zero (by rw [hr.1]; simp)
        subst hn0
        simp at hj
      · obtain ⟨b, off, he, _, hc⟩ := hr.2 h0
        injection he with he
        subst he
        rw [addr_plus]
        exact hc j u hj
    · intro v' w' hown' hgrow _
      refine h v' w' hown' ?_ hgrow
      exact (Below.refl _ _).grown hgrow hbase (fun k hk => (hown.lt k hk).1)

/-- A slice value that holds some cells, nil let in. -/
def Sl (w : World) (B sz : Nat) (v : Value) (n : Nat) (xs : List Value) : Prop :=
  ∃ A c, v = .slice A n c ∧ Rd w B sz A n xs ∧ n ≤ c ∧ c ≤ 9223372036854775807 ∧ (A = none → n = 0 ∧ c = 0)
section
variable {w w' : World} {B B' sz n : Nat} {v : Value} {xs : List Value}
theorem Sl.below (h : Sl w B sz v n xs) (hb : Below B w w') : Sl w' B sz v n xs := by
  obtain ⟨A, c, e, hr, h1, h2, h3⟩ := h
  exact ⟨A, c, e, hr.below hb, h1, h2, h3⟩
theorem Sl.more (h : Sl w B sz v n xs) (hB : B ≤ B') : Sl w B' sz v n xs := by
  obtain ⟨A, c, e, hr, h1, h2, h3⟩ := h
  exact ⟨A, c, e, hr.more hB, h1, h2, h3⟩
theorem Sl.of_own {base : Nat} {e : TypeId} (h : w.ownsRow base e sz v n xs) : Sl w w.heap.size sz v n xs := by
  rcases h.2 with ⟨rfl, rfl⟩ | ⟨g, cap, cur, rfl, _, hg, hnc, hm, hsz, htk⟩
  · exact ⟨none, 0, rfl, ⟨h.1, fun hn => absurd hn (by omega)⟩, Nat.le_refl _, by omega, fun _ => ⟨rfl, rfl⟩⟩
  · refine ⟨_, _, rfl, ⟨h.1, fun _ => ⟨g, 0, rfl, Blk.lt hg, fun j u hu => ?_⟩⟩, hnc, hm, fun h => by cases h⟩
    rw [Nat.zero_add, Blk.cell hg]
    rw [← htk, List.getElem?_take] at hu
    split at hu
    · simpa using hu
    · cases hu
theorem Sl.nil_ : Sl w B sz (.slice none 0 0) 0 [] := ⟨none, 0, rfl, Rd.nil_, Nat.le_refl _, by omega, fun _ => ⟨rfl, rfl⟩⟩
theorem Sl.of_blk {g off k c : Nat} {t : TypeId} {cs : List Value} {xs : List Value} (h : Blk w g t cs.toArray) (hx : ∀ j u, xs[j]? = some u → cs[off + j]? = some u) (hl : xs.length = k * sz) (hk : k ≤ c) (hc : c ≤ 9223372036854775807) :
    Sl w w.heap.size sz (.slice (some ⟨g, off, none⟩) k c) k xs :=
  ⟨_, _, rfl, ⟨hl, fun _ => ⟨g, off, rfl, h.lt, fun j u hu => by rw [h.cell]; simpa using hx j u hu⟩⟩, hk, hc, fun h => by cases h⟩
end
/-- A call that makes a slice. -/
def RetSl (sz n : Nat) (xs : List Value) (w : World) (r : Ending) (w' : World) : Prop := ∃ v, r = .returned v ∧ Below w.heap.size w w' ∧ Sl w' w'.heap.size sz v n xs

end Go.Proofs.YthgppaiiapkdjaaGreatDoor

/-
  Bytes put together: Grow, Concat, walked.
-/
namespace Go.Proofs.YthgppaiiapkdjaaGreatDoor
open Go.RowKit

theorem byte_info : (Tryz.prog.info? 5).map (fun i => (i.zero, i.size, i.bytes)) = some (some (.int .u8 0), 1, 1) := by kernel_rfl

set_option maxRecDepth 100000 in
set_option maxHeartbeats 1000000 in
/-- Room is made for n bytes. -/
theorem grow_nil (n : Nat) (w : World) (hn : n ≤ 70368744177664) :
    Calls Tryz.prog 102 #[.slice none 0 0, .int .i64 n] w fun r w' => ∃ v, r = .returned v ∧ Below w.heap.size w w' ∧ w'.ownsRow w.heap.size 5 1 v 0 [] := by
  rcases Nat.eq_zero_or_pos n with rfl | h0
  · go_enter Tryz.func102, Tryz.ntmps102
    go_wp2
    go_ret
    exact ⟨_, rfl, bRefl _, World.ownsRow_nil _ _ _ _⟩
  · obtain ⟨i0, hi, hz0, hz1, hz2⟩ := info_parts byte_info
    have hrz : ∀ ty, (Builtin.append_ #[128, 3] ty #[.slice none 0 0, .int .i64 (n : Int)]).run Tryz.prog w =
        .ok (.slice (some ⟨w.heap.size, 0, none⟩) (0 + n) (grownCap w (0 + n) 0 5)) (w.drew.alloc (.cells (([] : List Value).toArray ++ Builtin.zeroCells (Value.int .u8 0).cells n ++ Builtin.zeroCells (Value.int .u8 0).cells (grownCap w (0 + n) 0 5 - (0 + n))) 5)) := fun ty =>
      Lib.run_append_grow_zeros (P := Tryz.prog) w 128 3 ty 5 i0 (.int .u8 0) .i64 .i64 Tryz.underlying128 Tryz.underlying3 hi hz0 none 0 0 [] (run_firstCells_none w.drew i0.size 0 0 0) n h0 (by omega) (by omega) (by omega) (by rw [hz2]; omega)
        (by rw [hz2]; exact growslice_fits (by omega) (by omega))
    have hGn : 0 + n ≤ grownCap w (0 + n) 0 5 := grownCap_ge w _ _ _
    have hG63 := grownCap_le_maxLen w (0 + n) 0 5 (by unfold maxLen; omega)
    have hz : (Value.int .u8 0).cells.size = 1 := rfl
    obtain ⟨G, hG⟩ : ∃ G, G = grownCap w (0 + n) 0 5 := ⟨_, rfl⟩
    obtain ⟨cur, hcur⟩ : ∃ cur, cur = (([] : List Value).toArray ++ Builtin.zeroCells (Value.int .u8 0).cells n ++ Builtin.zeroCells (Value.int .u8 0).cells (G - (0 + n))) := ⟨_, rfl⟩
    have hsz : Hid (cur.size = G * 1) := by
      show _ = _
      rw [hcur]
      have e : ∀ k, (Builtin.zeroCells (Value.int .u8 0).cells k).size = k := fun k => by rw [size_zeroCells, hz]; omega
      rw [Array.size_append, Array.size_append, e, e]
      rw [← hG] at hGn
      simp
      omega
    rw [← hG] at hrz hGn hG63
    rw [← hcur] at hrz
    rw [Nat.zero_add] at hrz hGn
    clear hG hcur
    go_enter Tryz.func102, Tryz.ntmps102
    go_wp2_with (at_builtin; refine Lib.wpList_append_run _ rfl _ _ _ _ rfl _ _ rfl rfl _ _ (hrz _) ?_)
    go_ret
    refine ⟨_, rfl, bDr (bAl (bRefl _) _), rfl, .inr ⟨w.heap.size, G, cur, rfl, Nat.le_refl _, ?_, Nat.zero_le _, hG63, hsz.out, by simp⟩⟩
    exact Blk.new w 5 cur _ rfl

/-- A slice of bytes among others. -/
structure BSl where
  A : Option Addr
  c : Nat
  l : List Nat
def BSl.val (x : BSl) : Value := .slice x.A x.l.length x.c
def BSl.ok (w : World) (x : BSl) : Prop := Rd w w.heap.size 1 x.A x.l.length (byts x.l) ∧ (x.A = none → x.l.length = 0 ∧ x.c = 0)
def joinN (xs : List BSl) : List Nat := xs.flatMap BSl.l
theorem joinN_snoc (xs : List BSl) (x : BSl) : joinN (xs ++ [x]) = joinN xs ++ x.l := by simp [joinN]
theorem joinN_take {xs : List BSl} {k : Nat} {x : BSl} (h : xs[k]? = some x) : joinN (xs.take (k + 1)) = joinN (xs.take k) ++ x.l := by
  obtain ⟨hk, rfl⟩ := List.getElem?_eq_some_iff.1 h
  rw [List.take_succ_eq_append_getElem hk, joinN_snoc]
theorem joinN_le (xs : List BSl) (k : Nat) : (joinN (xs.take k)).length ≤ (joinN xs).length := by
  have h : joinN xs = joinN (xs.take k) ++ joinN (xs.drop k) := by
    unfold joinN; rw [← List.flatMap_append, List.take_append_drop]
  rw [h, List.length_append]; omega
/-- Element k of a slice of slices of bytes. -/
theorem BSl_at {w : World} {B n k : Nat} {S : Option Addr} {xs : List BSl} {x : BSl} (h : Rd w B 1 S n (xs.map BSl.val)) (hn : k < n) (hx : xs[k]? = some x) :
    ∃ b off, S = some ⟨b, off, none⟩ ∧ b < B ∧ w.cell? ⟨b, off + k, none⟩ = some (.slice x.A x.l.length x.c) := by
  obtain ⟨b, off, hA, hb, hc⟩ := h.2 (by omega)
  exact ⟨b, off, hA, hb, hc _ _ (by rw [List.getElem?_map, hx]; rfl)⟩
theorem byts_oneCell {l : List Nat} : ∀ u ∈ byts l, u.oneCell' = true := by
  intro v hv
  obtain ⟨x, _, rfl⟩ := List.mem_map.1 hv
  rfl

set_option maxRecDepth 100000 in
set_option maxHeartbeats 2000000 in
theorem concat_any (S : Option Addr) (c n : Nat) (xs : List BSl) (W : World) (hS : Rd W W.heap.size 1 S n (xs.map BSl.val)) (hx : ∀ x ∈ xs, x.ok W) (ht : (joinN xs).length ≤ 70368744177664) (hn : n ≤ 1000) :
    Calls Tryz.prog 91 #[.slice S n c] W (RetSl 1 (joinN xs).length (byts (joinN xs)) W) := by
  have hl : Hid (xs.length = n) := by have := hS.1; rw [List.length_map, Nat.mul_one] at this; exact this
  go_enter Tryz.func91, Tryz.ntmps91
  go_wp2_with fail
  go_loop [3, 11] (fun s i => ∃ k : Nat, k ≤ n ∧ i = .int .i64 k ∧ s = .int .i64 (joinN (xs.take k)).length) (fun _ i => n - (intOf i).toNat)
  case atStart => exact ⟨0, Nat.zero_le _, rfl, rfl⟩
  case round =>
    obtain ⟨k, hk, rfl, rfl⟩ := hrel
    have hle := joinN_le xs k
    by_cases hlt : k < n
    · obtain ⟨x, hxk⟩ : ∃ x, Hid (xs[k]? = some x) := ⟨_, Lib.hid (List.getElem?_eq_getElem (by rw [hl.out]; exact hlt))⟩
      obtain ⟨b, off, rfl, hbb, c0⟩ := BSl_at hS hlt hxk.out
      have hj := Lib.hid (joinN_take hxk.out)
      have hle2 := joinN_le xs (k + 1)
      rw [hj.out, List.length_append] at hle2
      go_wp2_with fail
      exact ⟨⟨k + 1, by omega, by go_num, by rw [hj.out, List.length_append]; go_num⟩, by simp [intOf]; omega⟩
    · have hkn : Hid (joinN (xs.take k) = joinN xs) := by show _ = _; rw [List.take_of_length_le (by rw [hl.out]; omega)]
      rw [hkn.out]
      go_wp2_with fail
      refine (grow_nil _ W ht).mono ?_
      rintro e w1 ⟨v, rfl, hb, hown⟩
      go_wp2_with fail
      go_loopw [6, 27] (fun v i wr => ∃ k : Nat, k ≤ n ∧ i = .int .i64 k ∧ Below W.heap.size W wr ∧ wr.ownsRow W.heap.size 5 1 v (joinN (xs.take k)).length (byts (joinN (xs.take k)))) (fun _ i _ => n - (intOf i).toNat)
      case atStart => exact ⟨0, Nat.zero_le _, rfl, hb, hown⟩
      case round =>
        clear hb hown hlt
        obtain ⟨k2, hk2, rfl, hb, hown⟩ := hrel
        have hle := joinN_le xs k2
        by_cases hlt : k2 < n
        · obtain ⟨x, hxk⟩ : ∃ x, Hid (xs[k2]? = some x) := ⟨_, Lib.hid (List.getElem?_eq_getElem (by rw [hl.out]; exact hlt))⟩
          obtain ⟨b, off, rfl, hbb, c0⟩ := BSl_at (hS.below hb) hlt hxk.out
          obtain ⟨hxr, hxn⟩ := hx x (List.mem_of_getElem? hxk.out)
          have hxr2 := hxr.below hb
          have hj := Lib.hid (joinN_take hxk.out)
          have hle2 := joinN_le xs (k2 + 1)
          rw [hj.out, List.length_append] at hle2
          have hbs := hb.size
          have hml : (joinN (xs.take k2)).length + x.l.length ≤ maxLen := by unfold maxLen; omega
          have hby : ((joinN (xs.take k2)).length + x.l.length) * 1 ≤ 140737488355328 := by omega
          go_wp2_with (at_builtin; refine wpList_appendS (.tmp 31) (.tmp 32) 128 W.heap.size 5 (.int .u8 0) 1 1 u6 (joinN (xs.take k2)).length (byts (joinN (xs.take k2))) x.A x.l.length x.c W.heap.size (byts x.l) rfl rfl Tryz.underlying128 byte_info rfl (by omega) rfl hown rfl hxr2 hxn byts_oneCell hml hby hbs ?_; intro v' w' hown4 hbw hgw)
          go_roundw
          case rel => exact ⟨k2 + 1, by omega, by go_num, hb.trans hbw, by rw [hj.out, List.length_append]; simpa [byts] using hown4⟩
          case measure => simp [intOf]; omega
        · have hkn2 : Hid (joinN (xs.take k2) = joinN xs) := by show _ = _; rw [List.take_of_length_le (by rw [hl.out]; omega)]
          rw [hkn2.out] at hown
          go_wp2_with fail
          go_ret
          exact ⟨_, rfl, hb, Sl.of_own hown⟩

end Go.Proofs.YthgppaiiapkdjaaGreatDoor
