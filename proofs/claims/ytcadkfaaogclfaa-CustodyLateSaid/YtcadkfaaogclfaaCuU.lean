/-
  Custody: Status, walked.
-/
import Derived.Test.YtcadkfaaogclfaaCuY
import Derived.Test.YtcadkfaaogclfaaCuT
namespace Go.Proofs.Ytcadkfaaogclfaa
open Go.RowKit Go.Shelf
attribute [local go_sem] Oper.semAt_some

/-- The kind of the last of some events. -/
def lastK (l : List Ev) : Int := l.foldl (fun _ x => x.kind) 0
theorem lastK_snoc (l : List Ev) (x : Ev) : lastK (l ++ [x]) = x.kind := by simp [lastK]
theorem kindAt_of (l : List Ev) (t : Int) : kindAt l t = lastK (ofUpto l t l.length) := by
  unfold ofUpto
  rw [List.take_length]
  unfold kindAt lastK
  rw [List.foldl_filter]
  congr 1
  funext s x
  by_cases h : x.letter = t <;> simp [h]

/-- The door behind which caught waits, marks before it. -/
theorem doorM_idle {fn : Func} {tmps : Array Value} {R : Ending → World → Prop} (p : Addr) (w : World) (v : Value)
    (hr : (results fn tmps).run Try.prog w = .ok v w) (h : R (.returned v) w) :
    LeavesM Try.prog fn tmps R [{ target := .fn (.func 19) #[], args := #[.pointer (some p)] }] .returning w := leavesM_of _ _ _ (door_idle p w v hr h)
theorem doorM_panic {fn : Func} {tmps : Array Value} {R : Ending → World → Prop} (p : Addr) (e old : Int) (w : World) (v : Value) (hc : w.cell? p = some (.int .i64 old)) (hz : w.frozen? p = false)
    (hr : (results fn tmps).run Try.prog (w.setCell p (.int .i64 e)) = .ok v (w.setCell p (.int .i64 e))) (h : R (.returned v) (w.setCell p (.int .i64 e))) :
    LeavesM Try.prog fn tmps R [{ target := .fn (.func 19) #[], args := #[.pointer (some p)] }] (.panicking [{ v := .iface 26 (.int .i64 e), recovered := false }]) w := leavesM_of _ _ _ (door_panic p e old w v hc hz hr h)

set_option maxRecDepth 100000 in
set_option maxHeartbeats 2000000 in
theorem status_any (A : Option Addr) (c : Nat) (l : List Ev) (t : Int) (W : World) (hA : Rd W W.heap.size 4 A l.length (l.flatMap Ev.cells)) :
    Calls Try.prog 10 #[.slice A l.length c, .int .i64 t] W (RetIE (statusK l t) (statusE l t) W) := by
  refine calls_of_wp_dm Try.func10 rfl ?_
  simp only [Try.ntmps10, List.size_toArray, List.length_cons, List.length_nil, Nat.reduceAdd, Nat.reduceSub, Array.replicate_succ, Array.replicate_zero, List.push_toArray, List.append_toArray, List.nil_append, List.cons_append]
  go_wp2_with fail
  refine (follow_any A c l _ (by exact (hA.alloc (Nat.le_refl _) _).more (by simp))).mono ?_
  rintro r w1 ⟨hb, hr⟩
  have hbW : Below W.heap.size W w1 := bCall (bAl (bRefl W) _) hb
  have B1 : Blk w1 W.heap.size 26 #[.int .i64 0] := (Blk.new W _ _ _ rfl).below hb (by simp)
  clear hb
  have hc : w1.cell? ⟨W.heap.size, 0, none⟩ = some (.int .i64 0) := B1.cell 0
  have hz := B1.frozen 0
  rcases hr with ⟨h0, rfl⟩ | ⟨h0, rfl⟩
  · have hsk : Hid (statusK l t = if spanB 0 1048576 t = true then kindAt l t else 0) := if_pos h0
    have hse : Hid (statusE l t = if spanB 0 1048576 t = true then 0 else 1) := if_pos h0
    have hn := few_of_check h0
    clear h0
    go_wp2_with fail
    refine (span_has _ _ _ _).mono ?_
    rintro e w2 ⟨rfl, hb2⟩
    have hbW2 := bCall hbW hb2
    have B2 := B1.below hb2 B1.lt
    clear hb2 hc hz B1
    go_wp2_with fail
    refine (need_any _ _ _).mono ?_
    rintro e w' ⟨rfl, ⟨ht, rfl⟩ | ⟨ht, rfl⟩⟩
    · have ht' := Lib.hid ht
      clear ht
      go_wp2_with fail
      refine (of_any A l.length c t _).mono ?_
      rintro e w3 ⟨rfl, rfl⟩
      go_wp2_with fail
      have BE : Blk (((w2.alloc (.cells #[.int .i64 0] 3)).alloc (.cells #[.slice A l.length c] 22)).alloc (.cells #[.int .i64 t] 3)) W.heap.size 26 #[.int .i64 0] := ((B2.alloc _).alloc _).alloc _
      have BL : Blk (((w2.alloc (.cells #[.int .i64 0] 3)).alloc (.cells #[.slice A l.length c] 22)).alloc (.cells #[.int .i64 t] 3)) w2.heap.size 3 #[.int .i64 0] := ((Blk.new _ _ _ _ rfl).alloc _).alloc _
      have BA : Blk (((w2.alloc (.cells #[.int .i64 0] 3)).alloc (.cells #[.slice A l.length c] 22)).alloc (.cells #[.int .i64 t] 3)) (w2.heap.size + 1) 22 #[.slice A l.length c] := (Blk.new _ _ _ _ (by simp)).alloc _
      have BT : Blk (((w2.alloc (.cells #[.int .i64 0] 3)).alloc (.cells #[.slice A l.length c] 22)).alloc (.cells #[.int .i64 t] 3)) (w2.heap.size + 1 + 1) 3 #[.int .i64 t] := Blk.new _ _ _ _ (by simp)
      have hbW3 := bAl (bAl (bAl hbW2 (.cells #[.int .i64 0] 3)) (.cells #[.slice A l.length c] 22)) (.cells #[.int .i64 t] 3)
      generalize ((w2.alloc (.cells #[.int .i64 0] 3)).alloc (.cells #[.slice A l.length c] 22)).alloc (.cells #[.int .i64 t] 3) = w3 at *
      have hbl : W.heap.size < w2.heap.size := B2.lt
      generalize w2.heap.size = bl at *
      have hl3 := BL.lt
      refine wp_rangeFunc 2 (gf := 30) (lb := #[.pointer (some ⟨bl + 1, 0, none⟩), .pointer (some ⟨bl + 1 + 1, 0, none⟩)]) rfl (enters_of Try.func30 (by kernel_rfl) rfl)
        (S := fun ys => ys = ofUpto l t l.length) (Sp := fun _ => True) (N := l.length) (w0 := w3)
        (of_stops_any (bl + 1) (bl + 1 + 1) W.heap.size c (fun k => k < w3.heap.size ∧ k ≠ bl) A l t hn w3 ⟨BA.lt, by omega⟩ ⟨BT.lt, by omega⟩ (fun k hk => ⟨by omega, by omega⟩) (fun k hk => hk.1) (BA.cell 0) (BT.cell 0) (hA.below hbW3))
        Keeps.trans (Keeps.put (fun k hk => hk.1)) (bRefl _) (fun _ => rfl)
        (fun pre W' => Blk W' bl 3 #[.int .i64 (lastK pre)] ∧ Blk W' W.heap.size 26 #[.int .i64 0] ∧ Below W.heap.size W W' ∧ w3.heap.size ≤ W'.heap.size)
        (fun x a₁ pre W' => (Blk W' bl 3 #[.int .i64 (lastK pre)] ∧ Blk W' W.heap.size 26 #[.int .i64 0] ∧ Below W.heap.size W W' ∧ w3.heap.size ≤ W'.heap.size) ∧ ∃ g, a₁ = { tmps := #[.slice A l.length c, .int .i64 t, undef, undef, .int .i64 0, .pointer (some ⟨W.heap.size, 0, none⟩), .pointer (some ⟨bl, 0, none⟩), .pointer (some ⟨g, 0, none⟩), .slice A l.length c, .tuple #[], .agg #[.int .i64 0, .int .i64 1048576], .int .i64 t, .bool (spanB 0 1048576 t), .tuple #[], .slice A l.length c, .int .i64 t, .func (.func 30) #[] #[.pointer (some ⟨bl + 1, 0, none⟩), .pointer (some ⟨bl + 1 + 1, 0, none⟩)], x.agg, undef, undef, undef], defers := [] } ∧ Blk W' g 36 x.cells.toArray)
        (fun _ _ _ => False)
        (fun pre A' B' row h hg hr => ⟨h.1.kept hg hr, h.2.1.kept hg hr, bGrown h.2.2.1 hg hbW3.size hr, Nat.le_trans h.2.2.2 hg.size⟩)
        (fun x a pre A' B' row h hg hr => ⟨⟨h.1.1.kept hg hr, h.1.2.1.kept hg hr, bGrown h.1.2.2.1 hg hbW3.size hr, Nat.le_trans h.1.2.2.2 hg.size⟩, h.2.imp fun g hq => ⟨hq.1, hq.2.kept hg hr⟩⟩)
        (fun _ _ _ _ _ h _ _ => h)
        ⟨BL, BE, hbW3, Nat.le_refl _⟩ ?assign ?body ?done ?stop
      case assign =>
        rintro L pre x Wc ⟨hL, hE, hbc, hsz⟩ hlen
        dsimp only [Ev.agg]
        gi_wp2
        refine ⟨KeepsOthers.alloc _ _, Keeps.alloc (Keeps.refl _ _) (fun k hk => Nat.lt_of_lt_of_le hk.1 hsz) _, ⟨hL.alloc _, hE.alloc _, bAl hbc _, by simp; omega⟩, Wc.heap.size, rfl, Blk.new _ _ _ _ rfl⟩
      case body =>
        rintro L pre x a₁ Wc ⟨⟨hL, hE, hbc, hsz⟩, g, rfl, hG⟩ hlen
        have d1 : Wc.cell? ⟨g, 1, none⟩ = some (.int .i64 x.kind) := hG.cell 1
        have d2 : Wc.cell? ⟨bl, 0, none⟩ = some (.int .i64 (lastK pre)) := hL.cell 0
        have d3 := hL.frozen 0
        dsimp only [Ev.agg]
        gi_wp2
        have hne : W.heap.size ≠ bl := by omega
        refine ⟨KeepsOthers.setCell _ _ _, (Keeps.refl _ _).setCell (fun h => h.2 rfl) _, ?_, hE.far (by exact hne) _, bSet hbc (by exact Nat.le_of_lt hbl) _, by simpa [World.setCell] using hsz⟩
        rw [lastK_snoc]
        exact hL.set_ 0 _
      case done =>
        rintro D xs Wc hD rfl ⟨hL, hE, hbc, hsz⟩ hd
        have d1 : Wc.cell? ⟨bl, 0, none⟩ = some (.int .i64 (lastK (ofUpto l t l.length))) := hL.cell 0
        have d2 : Wc.cell? ⟨W.heap.size, 0, none⟩ = some (.int .i64 0) := hE.cell 0
        have d3 := hE.frozen 0
        have hD' : W.heap.size ≤ D := Nat.le_trans hbW3.size hD
        have hdd : (Wc.setCell ⟨W.heap.size, 0, none⟩ (.int .i64 0)).heap[D]? = some (.deferred (some [])) := by
          rw [Below.heap_setCell _ _ _ _ (by intro e; subst e; unfold Blk at hE; rw [hE] at hd; cases hd)]; exact hd
        have hE2 := (hE.set_ 0 (.int .i64 0)).put (o' := .deferred none) hdd rfl
        go_wp2_with fail
        refine leavesM_mark (by simp) hdd ?_
        refine doorM_idle _ _ (.tuple #[.int .i64 (lastK (ofUpto l t l.length)), .int .i64 0]) ?_ ⟨ret_ie ?_ ?_, bPut (bSet hbc (Nat.le_refl _) _) hD' _⟩
        · have e1 := hE2.cell 0
          simp [results, Try.results10, go_sem, e1]
        · rw [hsk.out, if_pos ht'.out, kindAt_of]
        · rw [hse.out, if_pos ht'.out]
      case stop =>
        rintro D c' pre Wc _ _ h _
        exact h.elim
    · have hc : w2.cell? ⟨W.heap.size, 0, none⟩ = some (.int .i64 0) := B2.cell 0
      have hz := B2.frozen 0
      have hc2 : ∀ u, (w2.setCell ⟨W.heap.size, 0, none⟩ u).cell? ⟨W.heap.size, 0, none⟩ = some u := fun u => World.cell?_setCell_same _ _ _ hc
      refine doorM_panic _ 1 0 _ (.tuple #[.int .i64 0, .int .i64 1]) hc hz (by simp [results, Try.results10, go_sem, hc2]) ⟨ret_ie ?_ ?_, bSet hbW2 (Nat.le_refl _) _⟩
      · rw [hsk.out, ht]; rfl
      · rw [hse.out, ht]; rfl
  · have hc2 : ∀ u, (w1.setCell ⟨W.heap.size, 0, none⟩ u).cell? ⟨W.heap.size, 0, none⟩ = some u := fun u => World.cell?_setCell_same _ _ _ hc
    refine doorM_panic _ (check l) 0 _ (.tuple #[.int .i64 0, .int .i64 (check l)]) hc hz (by simp [results, Try.results10, go_sem, hc2]) ⟨ret_ie ?_ ?_, bSet hbW (Nat.le_refl _) _⟩
    · exact (if_neg h0).symm
    · exact (if_neg h0).symm

end Go.Proofs.Ytcadkfaaogclfaa
