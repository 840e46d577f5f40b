/- The reference's inLine; walked (printed by gen/SqG.py). -/
import Derived.Test.YtmbopkcmbiommaaGreatDoorRbo
set_option maxRecDepth 1000000
set_option maxHeartbeats 16000000
namespace Go.Proofs.YtmbopkcmbiommaaGreatDoor
open Go Go.RowKit
theorem own_far {w : World} {base n sz : Nat} {e : TypeId} {v : Value} {xs : List Value} (h : w.ownsRow base e sz v n xs) {p : Addr} (hp : p.block < base) (u : Value) : (w.setCell p u).ownsRow base e sz v n xs := by
  refine ⟨h.1, ?_⟩
  rcases h.2 with h2 | ⟨g, cap, cur, hv, hb, hh, r⟩
  · exact .inl h2
  · exact .inr ⟨g, cap, cur, hv, hb, (Below.heap_setCell _ _ _ _ (by omega)).trans hh, r⟩
theorem own_farRow {w : World} {base n sz g : Nat} {e : TypeId} {v : Value} {xs : List Value} (h : w.ownsRow base e sz v n xs) (hp : g < base) (X : Array Value) : (w.setRow g X).ownsRow base e sz v n xs := by
  refine ⟨h.1, ?_⟩
  rcases h.2 with h2 | ⟨g', cap, cur, hv, hb, hh, r⟩
  · exact .inl h2
  · exact .inr ⟨g', cap, cur, hv, hb, (setRow_other _ _ _ _ (by omega)).trans hh, r⟩
theorem rd_ownN {w : World} {base n c g sz : Nat} {e : TypeId} {xs : List Value} (h : w.ownsRow base e sz (.slice (some ⟨g, 0, none⟩) n c) n xs) : Rd w w.heap.size sz (some ⟨g, 0, none⟩) n xs := by
  obtain ⟨A, c', e, hr, -⟩ := Sl.of_own h
  injection e with e1 e2 e3
  rw [e1]
  exact hr
theorem tt_info : (Tryz.prog.info? 24).map (·.size) = some 2 := by kernel_rfl
theorem line_size : (Tryz.prog.info? 56).map (·.size) = some 6 := by kernel_rfl
theorem linsCl_snoc {lp : List LS} {l : List Lin} (h : lp.length = l.length) (q : LS) (y : Lin) : linsCl (lp ++ [q]) (l ++ [y]) = linsCl lp l ++ q.cl y := by
  unfold linsCl
  rw [List.zip_append h, List.flatMap_append]
  simp
theorem linsCl_len : ∀ {lp : List LS} {l : List Lin}, lp.length = l.length → (linsCl lp l).length = l.length * 6
  | [], [], _ => rfl
  | q :: lp, y :: l, h => by
    have ih := linsCl_len (lp := lp) (l := l) (by simpa using h)
    have e : linsCl (q :: lp) (y :: l) = q.cl y ++ linsCl lp l := by unfold linsCl; rw [List.zip_cons_cons, List.flatMap_cons]
    rw [e, List.length_append, ih, List.length_cons]
    show 6 + _ = _
    omega
theorem lins_one : ∀ {lp : List LS} {l : List Lin}, ∀ u ∈ linsCl lp l, u.oneCell' = true := by
  intro lp l u hu
  unfold linsCl at hu
  obtain ⟨p, _, hp⟩ := List.mem_flatMap.1 hu
  unfold LS.cl at hp
  simp only [List.mem_cons, List.not_mem_nil, or_false] at hp
  rcases hp with rfl | rfl | rfl | rfl | rfl | rfl <;> rfl
theorem rd_store {w' : World} {g m : Nat} {T : TypeId} {C0 old X : List Value} {cur : Array Value} (htk : cur.toList.take ((m + 1) * 6) = C0 ++ old) (hC : C0.length = m * 6) (hX : X.length = 6) (h' : Blk w' g T (cur.toList.take (m * 6) ++ X ++ cur.toList.drop (m * 6 + 6)).toArray) : Rd w' w'.heap.size 6 (some ⟨g, 0, none⟩) (m + 1) (C0 ++ X) := by
  have e : cur.toList.take (m * 6) = C0 := by
    have h1 := congrArg (List.take (m * 6)) htk
    rw [List.take_take, Nat.min_eq_left (by omega), List.take_append_of_le_length (by omega)] at h1
    rw [h1, ← hC, List.take_length]
  refine ⟨by rw [List.length_append, hC, hX]; omega, fun _ => ⟨g, 0, rfl, h'.lt, fun j u hu => ?_⟩⟩
  rw [Nat.zero_add, h'.cell, List.getElem?_toArray, e, List.getElem?_append_left (by have := (List.getElem?_eq_some_iff.1 hu).1; exact this)]
  exact hu
def KeepB (B N : Nat) (w w' : World) : Prop := w.heap.size ≤ w'.heap.size ∧ ∀ g, g < w.heap.size → (g < B ∨ N ≤ g) → w'.heap[g]? = w.heap[g]?
theorem Rd.keepW {w w' : World} {B sz n : Nat} {A : Option Addr} {xs : List Value} (h : Rd w B sz A n xs) (k : ∀ g, g < B → w'.heap[g]? = w.heap[g]?) : Rd w' B sz A n xs := by
  refine ⟨h.1, fun h0 => ?_⟩
  obtain ⟨b, off, hA, hb, hc⟩ := h.2 h0
  refine ⟨b, off, hA, hb, fun j u hu => ?_⟩
  rw [← hc j u hu]
  unfold World.cell?
  simp only [k b hb]
theorem LinAt.keepW {w w' : World} {B : Nat} {q : LS} {y : Lin} (h : LinAt w B q y) (k : ∀ g, g < B → w'.heap[g]? = w.heap[g]?) : LinAt w' B q y := ⟨h.r0.keepW k, h.r1.keepW k, h.r2.keepW k, h.r3.keepW k⟩
theorem KeepB.blk {B N g : Nat} {w w' : World} {t : TypeId} {cs : Array Value} (k : KeepB B N w w') (h : Blk w g t cs) (hg : N ≤ g) : Blk w' g t cs := (k.2 g h.lt (.inr hg)).trans h
theorem KeepB.own {B N base n sz : Nat} {w w' : World} {e : TypeId} {v : Value} {xs : List Value} (k : KeepB B N w w') (h : w.ownsRow base e sz v n xs) (hb : N ≤ base) : w'.ownsRow base e sz v n xs := by
  refine ⟨h.1, ?_⟩
  rcases h.2 with h2 | ⟨g, cap, cur, hv, hg, hh, r⟩
  · exact .inl h2
  · exact .inr ⟨g, cap, cur, hv, hg, k.blk hh (by omega), r⟩
theorem KeepB.old {B N : Nat} {W w w' : World} (k : KeepB B N w w') (b : Below N W w) (hB : B ≤ N) (hN : N ≤ W.heap.size) : ∀ g, g < B → w'.heap[g]? = W.heap[g]? := fun g hg => (k.2 g (Nat.lt_of_lt_of_le hg (Nat.le_trans hB (Nat.le_trans hN b.size))) (.inl hg)).trans (b.block g (by omega))
def InR (offs : Int) (l : List Lin) (B N : Nat) (W : World) (e : Ending) (w' : World) : Prop := ∃ (g c : Nat), e = .returned (.agg #[.int .i64 offs, .slice (some ⟨g, 0, none⟩) l.length c]) ∧ (∀ w2, KeepB B W.heap.size w' w2 → LinsN w2 w2.heap.size N (some ⟨g, 0, none⟩) l) ∧ Below W.heap.size W w'
theorem lines_last {w : World} {B N : Nat} {A : Option Addr} {l : List Lin} (h : LinsN w B N A l) (hne : l ≠ []) : ∃ (pre : List Lin) (y : Lin) (lp : List LS) (q : LS) (b off : Nat), l = pre ++ [y] ∧ lp.length = pre.length ∧ A = some ⟨b, off, none⟩ ∧ Rd w B 6 A (pre.length + 1) (linsCl lp pre ++ q.cl y) ∧ LinAt w B q y ∧ y.offs.length ≤ q.c0 ∧ LinLow N q y ∧ ∀ (k : Nat) (z : Lin), pre[k]? = some z → ∃ q', lp[k]? = some q' ∧ LinAt w B q' z ∧ z.offs.length ≤ q'.c0 ∧ LinLow N q' z := by
  obtain ⟨pre, y, rfl⟩ : ∃ pre y, l = pre ++ [y] := ⟨l.dropLast, l.getLast hne, (List.dropLast_concat_getLast hne).symm⟩
  obtain ⟨ls, l1, l2, -, l3⟩ := h
  have hls : ls ≠ [] := by intro e; rw [e] at l1; simp at l1
  obtain ⟨lp, q, rfl⟩ : ∃ lp q, ls = lp ++ [q] := ⟨ls.dropLast, ls.getLast hls, (List.dropLast_concat_getLast hls).symm⟩
  have hl : lp.length = pre.length := by simpa using l1
  rw [linsCl_snoc hl] at l2
  have l2' : Rd w B 6 A (pre.length + 1) (linsCl lp pre ++ q.cl y) := by simpa using l2
  obtain ⟨b, off, hA, -, -⟩ := l2'.2 (by omega)
  obtain ⟨q', e1, e2, e3, e4⟩ := l3 pre.length y (by simp)
  rw [← hl, List.getElem?_append_right (Nat.le_refl _), Nat.sub_self] at e1
  injection e1 with e1
  subst e1
  refine ⟨pre, y, lp, q, b, off, rfl, hl, hA, l2', e2, e3, e4, fun k z hz => ?_⟩
  have hk := (List.getElem?_eq_some_iff.1 hz).1
  obtain ⟨q', f1, f2⟩ := l3 k z (by rw [List.getElem?_append_left hk]; exact hz)
  exact ⟨q', by rwa [List.getElem?_append_left (by omega)] at f1, f2⟩
theorem lines_new {w : World} {B N : Nat} {A : Option Addr} {pre : List Lin} {y : Lin} {lp : List LS} {q : LS} (hl : lp.length = pre.length) (hr : Rd w B 6 A (pre.length + 1) (linsCl lp pre ++ q.cl y)) (hL : Low N A (pre.length + 1)) (hy : LinAt w B q y) (hc : y.offs.length ≤ q.c0) (hN : LinLow N q y) (hp : ∀ (k : Nat) (z : Lin), pre[k]? = some z → ∃ q', lp[k]? = some q' ∧ LinAt w B q' z ∧ z.offs.length ≤ q'.c0 ∧ LinLow N q' z) : LinsN w B N A (pre ++ [y]) := by
  refine ⟨lp ++ [q], by simp [hl], by rw [linsCl_snoc hl, List.length_append]; exact hr, by rw [List.length_append]; exact hL, fun k z hz => ?_⟩
  by_cases hk : k < pre.length
  · rw [List.getElem?_append_left hk] at hz
    obtain ⟨q', f1, f2⟩ := hp k z hz
    exact ⟨q', by rw [List.getElem?_append_left (by omega)]; exact f1, f2⟩
  · rw [List.getElem?_append_right (by omega)] at hz
    obtain rfl : k = pre.length := by
      have := (List.getElem?_eq_some_iff.1 hz).1
      simp at this
      omega
    rw [Nat.sub_self] at hz
    injection hz with hz
    subst hz
    exact ⟨q, by rw [← hl, List.getElem?_append_right (Nat.le_refl _), Nat.sub_self]; rfl, hy, hc, hN⟩
theorem rp_inRule (offs : Int) (al : Option Addr) (cl_ : Nat) (l : List Lin) (gn cn : Nat) (a0 a1 a2 : Int) (B N : Nat) (W : World) (hB : B ≤ W.heap.size) (hN : N ≤ W.heap.size) (hC : LinsN W B N al l) (hne : l ≠ []) (hm : l.length ≤ 1000000) (hmy : ∀ y ∈ l, y.rules.length ≤ 1000000 ∧ y.off.length ≤ 1000000) (hn : Rd W W.heap.size 1 (some ⟨gn, 0, none⟩) 3 (ints [a0, a1, a2])) :
    Calls Tryz.prog 60 #[.agg #[.int .i64 offs, .slice al l.length cl_], .slice (some ⟨gn, 0, none⟩) 3 cn] W (InR offs (lastL (fun y => { y with rules := y.rules ++ [⟨a0, a1, a2⟩] }) l) B N W) := by
  obtain ⟨pre, y, lp, q, b, off, rfl, hlp, rfl, hR, hy, hyc, hyl, hpre⟩ := lines_last hC hne
  obtain ⟨hy4, hy5⟩ := hmy y (by simp)
  rw [lastL_snoc]
  have hyW := hy.more hB
  replace hR := hR.more hB
  have hlen : (pre ++ [y]).length = pre.length + 1 := by simp
  rw [hlen] at hm ⊢
  clear hlen hC hne hmy
  obtain ⟨q0, q1, q2, q3, m0, m1, m2, m3⟩ := q
  have hbn : gn < W.heap.size := by
    obtain ⟨b', off', e1, e2, -⟩ := hn.2 (by decide)
    injection e1 with e1
    injection e1 with e1
    omega
  have n0 : W.cell? ⟨gn, 0, none⟩ = some (.int .i64 a0) := by
    obtain ⟨b2, off2, e1, e2, hc⟩ := hn.2 (by decide)
    injection e1 with e1
    injection e1 with e1 e3
    subst e1; subst e3
    have := hc 0 _ rfl
    rwa [Nat.zero_add] at this
  have n1 : W.cell? ⟨gn, 1, none⟩ = some (.int .i64 a1) := by
    obtain ⟨b2, off2, e1, e2, hc⟩ := hn.2 (by decide)
    injection e1 with e1
    injection e1 with e1 e3
    subst e1; subst e3
    have := hc 1 _ rfl
    rwa [Nat.zero_add] at this
  have n2 : W.cell? ⟨gn, 2, none⟩ = some (.int .i64 a2) := by
    obtain ⟨b2, off2, e1, e2, hc⟩ := hn.2 (by decide)
    injection e1 with e1
    injection e1 with e1 e3
    subst e1; subst e3
    have := hc 2 _ rfl
    rwa [Nat.zero_add] at this
  obtain ⟨C0, hc0⟩ : ∃ C0, Hid (linsCl lp pre = C0) := ⟨_, Lib.hid rfl⟩
  rw [hc0.out] at hR
  have hC0 : C0.length = pre.length * 6 := by rw [← hc0.out]; exact linsCl_len hlp
  have B0 := Blk.new W 24 #[.int .i64 offs, .slice (some ⟨b, off, none⟩) (pre.length + 1) cl_] _ rfl
  have hb := bAl (bRefl W) (.cells #[.int .i64 offs, .slice (some ⟨b, off, none⟩) (pre.length + 1) cl_] 24)
  have hw1 : (W.alloc (.cells #[.int .i64 offs, .slice (some ⟨b, off, none⟩) (pre.length + 1) cl_] 24)).heap.size = W.heap.size + 1 := by simp
  have B1 := Blk.new (W.alloc (.cells #[.int .i64 offs, .slice (some ⟨b, off, none⟩) (pre.length + 1) cl_] 24)) 24 #[.int .i64 0, .slice none 0 0] _ hw1.symm
  replace B0 := B0.alloc (.cells #[.int .i64 0, .slice none 0 0] 24)
  replace hb := bAl hb (.cells #[.int .i64 0, .slice none 0 0] 24)
  go_enter Tryz.func60, Tryz.ntmps60
  go_upto_region 1 with fail
  generalize (W.alloc (.cells #[.int .i64 offs, .slice (some ⟨b, off, none⟩) (pre.length + 1) cl_] 24)).alloc (.cells #[.int .i64 0, .slice none 0 0] 24) = w1 at *
  clear hw1
  have hg1 := B1.lt
  have u1 := (B0.alloc (.cells #[] 56)).cell 1
  have own0 := own_none (w := w1) (e := 56) (sz := 6) (base := w1.heap.size) (Nat.le_refl _)
  have hA := bAl (bRefl w1) (.cells #[] 56)
  have hR1 : Rd (w1.alloc (.cells #[] 56)) W.heap.size 6 (some ⟨b, off, none⟩) (pre.length + 1) (C0 ++ LS.cl ⟨q0, q1, q2, q3, m0, m1, m2, m3⟩ y) := hR.below (bAl hb _)
  have one1 : ∀ u ∈ C0 ++ LS.cl ⟨q0, q1, q2, q3, m0, m1, m2, m3⟩ y, u.oneCell' = true := by rw [← hc0.out, ← linsCl_snoc hlp]; exact lins_one
  have h63 : 0 + (pre.length + 1) ≤ maxLen := by unfold maxLen; omega
  have hby : (0 + (pre.length + 1)) * 112 ≤ 140737488355328 := by omega
  go_upto_region 2 with (at_builtin; refine wpList_appendG (.tmp 7) (.tmp 9) 22 w1.heap.size 56 (.agg #[.slice none 0 0, .slice none 0 0, .int .i64 0, .int .i64 0, .slice none 0 0, .slice none 0 0]) 6 112 _ 0 [] (some ⟨b, off, none⟩) (pre.length + 1) cl_ W.heap.size _ rfl rfl Tryz.underlying22 line_info rfl (by omega) rfl own0 rfl hR1 (fun h => by cases h) one1 h63 hby hA.size ?_; intro v1 w2 hown hgr; have hb2 := hA.trans (hgr.below own0 hA.size); rw [Nat.zero_add, List.nil_append] at hown; obtain ⟨g1, c1, rfl⟩ := own_two hown (by omega); have B02 := B0.below hb2 B0.lt; have B12 := B1.below hb2 B1.lt; have u2 := B02.cell 1; have z2 := B02.frozen 1)
  have hWl : W.heap.size < w1.heap.size := by omega
  have own3 := own_far hown (p := ⟨W.heap.size, 1, none⟩) hWl (.slice (some ⟨g1, 0, none⟩) (pre.length + 1) c1)
  have B03 : Blk (w2.setCell ⟨W.heap.size, 1, none⟩ (.slice (some ⟨g1, 0, none⟩) (pre.length + 1) c1)) W.heap.size 24 #[.int .i64 offs, .slice (some ⟨g1, 0, none⟩) (pre.length + 1) c1] := B02.set_ 1 _
  have B13 := B12.far (p := ⟨W.heap.size, 1, none⟩) (by simp) (.slice (some ⟨g1, 0, none⟩) (pre.length + 1) c1)
  have hb3 := bSet (p := ⟨W.heap.size, 1, none⟩) (bCall hb hb2) (Nat.le_refl _) (.slice (some ⟨g1, 0, none⟩) (pre.length + 1) c1)
  generalize w2.setCell ⟨W.heap.size, 1, none⟩ (.slice (some ⟨g1, 0, none⟩) (pre.length + 1) c1) = w3 at *
  clear u1 u2 z2 B02 B12 hown hgr own0 hA hR1 one1 h63 hby B0 B1 hb hb2 hR
  obtain ⟨-, hg1b, cur3, BG3, -, -, hcs3, htk3⟩ := OwnAt.parts own3
  have el : ∀ (j : Nat) (u : Value), (LS.cl ⟨q0, q1, q2, q3, m0, m1, m2, m3⟩ y)[j]? = some u → w3.cell? ⟨g1, pre.length * 6 + j, none⟩ = some u := fun j u hu => own_cell own3 (by rw [List.getElem?_append_right (by omega), hC0, Nat.add_sub_cancel_left]; exact hu)
  have e0 : w3.cell? ⟨g1, pre.length * 6, none⟩ = _ := el 0 _ rfl
  have e1 := el 1 _ rfl
  have e2 := el 2 _ rfl
  have e3 := el 3 _ rfl
  have e4 := el 4 _ rfl
  have e5 := el 5 _ rfl
  clear el
  have u1 := B03.cell 1
  have k1 : IntKind.i64.wrap ((pre.length : Int) + 1 - 1) = (pre.length : Int) := by rw [IntKind.wrap_i64]; omega
  have k2 : IntKind.i64.wrap (pre.length : Int) = (pre.length : Int) := by rw [IntKind.wrap_i64]; omega
  have i0 : (0 : Int) ≤ (pre.length : Int) := by omega
  have i1 : (pre.length : Int) < (pre.length : Int) + 1 := by omega
  go_upto_region 5 with fail
  have BX4 := Blk.new w3 56 #[.slice q0 y.offs.length m0, .slice q1 y.legs.length m1, .int .i64 y.cls, .int .i64 y.room, .slice q2 y.rules.length m2, .slice q3 y.off.length m3] _ rfl
  have B04 := B03.alloc (.cells #[.slice q0 y.offs.length m0, .slice q1 y.legs.length m1, .int .i64 y.cls, .int .i64 y.room, .slice q2 y.rules.length m2, .slice q3 y.off.length m3] 56)
  have B14 := B13.alloc (.cells #[.slice q0 y.offs.length m0, .slice q1 y.legs.length m1, .int .i64 y.cls, .int .i64 y.room, .slice q2 y.rules.length m2, .slice q3 y.off.length m3] 56)
  have own4 := own3.alloc (.cells #[.slice q0 y.offs.length m0, .slice q1 y.legs.length m1, .int .i64 y.cls, .int .i64 y.room, .slice q2 y.rules.length m2, .slice q3 y.off.length m3] 56)
  have hb4 := bAl hb3 (.cells #[.slice q0 y.offs.length m0, .slice q1 y.legs.length m1, .int .i64 y.cls, .int .i64 y.room, .slice q2 y.rules.length m2, .slice q3 y.off.length m3] 56)
  have hgx := BG3.lt
  generalize w3.alloc (.cells #[.slice q0 y.offs.length m0, .slice q1 y.legs.length m1, .int .i64 y.cls, .int .i64 y.room, .slice q2 y.rules.length m2, .slice q3 y.off.length m3] 56) = w4 at *
  have hxw := BX4.lt
  have hgn4 : gn < w4.heap.size := Nat.lt_of_lt_of_le hbn hb4.size
  have f0 : w4.cell? ⟨gn, 0, none⟩ = some (.int .i64 a0) := (hb4.cell (p := ⟨gn, 0, none⟩) hbn).trans n0
  have f1 : w4.cell? ⟨gn, 1, none⟩ = some (.int .i64 a1) := (hb4.cell (p := ⟨gn, 1, none⟩) hbn).trans n1
  have f2 : w4.cell? ⟨gn, 2, none⟩ = some (.int .i64 a2) := (hb4.cell (p := ⟨gn, 2, none⟩) hbn).trans n2
  clear u1 e0 e1 e2 e3 e4 e5 k1 B03 B13 own3 hb3 BG3 htk3 hcs3
  generalize w3.heap.size = gx at *
  have hH1 := B14.lt
  have KS : Hid (∀ w', Below w4.heap.size w4 w' → w'.cell? ⟨gx, 4, none⟩ = some (.slice q2 y.rules.length m2) ∧ w'.cell? ⟨gn, 0, none⟩ = some (.int .i64 a0) ∧ w'.cell? ⟨gn, 1, none⟩ = some (.int .i64 a1) ∧ w'.cell? ⟨gn, 2, none⟩ = some (.int .i64 a2)) := Lib.hid (fun w' bb => ⟨(BX4.below bb BX4.lt).cell 4, (bb.cell (p := ⟨gn, 0, none⟩) hgn4).trans f0, (bb.cell (p := ⟨gn, 1, none⟩) hgn4).trans f1, (bb.cell (p := ⟨gn, 2, none⟩) hgn4).trans f2⟩)
  have r2 : ∀ w, (Instr.buildSlice 53 1 #[(0, .agg #[.int .i64 a0, .int .i64 a1, .int .i64 a2])]).run Tryz.prog w = .ok (.slice (some ⟨w.heap.size, 0, none⟩) 1 1) (w.alloc (.cells [.int .i64 a0, .int .i64 a1, .int .i64 a2].toArray 59)) := fun w => run_one (z := #[.int .i64 0, .int .i64 0, .int .i64 0]) Tryz.underlying53 rule_info rfl (by omega) (by omega) w
  have onex : ∀ u ∈ [Value.int .i64 a0, Value.int .i64 a1, Value.int .i64 a2], u.oneCell' = true := by intro u hu; simp at hu; rcases hu with rfl | rfl | rfl <;> rfl
  have oney : ∀ u ∈ y.rules.flatMap Rl.cl, u.oneCell' = true := by
    intro u hu
    obtain ⟨z, _, hz⟩ := List.mem_flatMap.1 hu
    unfold Rl.cl at hz
    simp only [List.mem_cons, List.not_mem_nil, or_false] at hz
    rcases hz with rfl | rfl | rfl <;> rfl
  have g63 : y.rules.length + 1 ≤ maxLen := by unfold maxLen; omega
  have gby : (y.rules.length + 1) * 24 ≤ 140737488355328 := by omega
  refine wp_region_schU (fun w' => w'.cell? ⟨gx, 4, none⟩ = some (.slice q2 y.rules.length m2) ∧ w'.cell? ⟨gn, 0, none⟩ = some (.int .i64 a0) ∧ w'.cell? ⟨gn, 1, none⟩ = some (.int .i64 a1) ∧ w'.cell? ⟨gn, 2, none⟩ = some (.int .i64 a2)) 15 6 [(1, 1), (2, 2), (4, 1), (5, 1), (6, 2), (7, 1), (8, 1), (9, 2), (10, 1), (11, 1), (12, 2), (13, 1)] (KS.out _ (bDr (bRefl w4))) ?_
  simp only [pickS, List.getElem?_cons_zero, List.getElem?_cons_succ]
  refine wpSchedU_t ?_
  refine wpSchedU_r ?_
  refine wpSchedU_t ?_
  refine wpSchedU_t ?_
  refine wpSchedU_r ?_
  refine wpSchedU_t ?_
  refine wpSchedU_t ?_
  refine wpSchedU_r ?_
  refine wpSchedU_t ?_
  refine wpSchedU_t ?_
  refine wpSchedU_r ?_
  refine wpSchedU_t ?_
  have hD := bDr (bRefl w4)
  generalize w4.drew = wD at *
  refine anyU_fresh 0 3 14 15 [(15, 3), (16, 3), (17, 3)] 53 59 (.agg #[.int .i64 0, .int .i64 0, .int .i64 0]) 3 24 q2 y.rules.length m2 W.heap.size (y.rules.flatMap Rl.cl) [.int .i64 a0, .int .i64 a1, .int .i64 a2] (.agg #[.int .i64 a0, .int .i64 a1, .int .i64 a2]) Tryz.underlying53 rule_info rfl (by omega) ((hyW.r2).below (hb4.trans (hD.mono hb4.size))) (Nat.le_trans hb4.size hD.size) rfl r2 oney onex g63 gby (fun w' bb => KS.out _ (hD.trans (bb.mono hD.size))) (fun x0 x1 x2 v9 w5 hown9 hbl => ?_)
  obtain ⟨g9, c9, rfl⟩ := own_two hown9 (by omega)
  have hg9 : wD.heap.size ≤ g9 := (OwnAt.parts hown9).2.1
  have hg9N : N ≤ g9 := by have := hb4.size; have := hD.size; omega
  simp only [Act.put, List.setIfInBounds_toArray, List.set_cons_zero, List.set_cons_succ]
  have hb5 := hD.trans (hbl.mono hD.size)
  have BX5 := BX4.below hb5 BX4.lt
  have k4 := BX5.cell 4
  have z4 := BX5.frozen 4
  have own5 := ownsRow_keep own4 hb5
  have B05 := B04.below hb5 B04.lt
  have B15 := B14.below hb5 B14.lt
  clear KS r2 onex oney
  go_wp2_with fail
  refine NoPanic.normal ?_
  go_upto_region 7 with fail
  have hw9 : w4.heap.size ≤ wD.heap.size := hD.size
  obtain ⟨-, -, cur, BG5, hc1, -, hcs, htk⟩ := OwnAt.parts own5
  have hVe : (#[.slice q0 y.offs.length m0, .slice q1 y.legs.length m1, .int .i64 y.cls, .int .i64 y.room, .slice q2 y.rules.length m2, .slice q3 y.off.length m3] : Array Value).setIfInBounds 4 (.slice (some ⟨g9, 0, none⟩) (y.rules.length + 1) c9) = #[.slice q0 y.offs.length m0, .slice q1 y.legs.length m1, .int .i64 y.cls, .int .i64 y.room, .slice (some ⟨g9, 0, none⟩) (y.rules.length + 1) c9, .slice q3 y.off.length m3] := rfl
  have BX8 := BX5.set_ 4 (.slice (some ⟨g9, 0, none⟩) (y.rules.length + 1) c9)
  rw [hVe] at BX8
  have hgxD : gx < wD.heap.size := by omega
  have own8 := own_far hown9 (p := ⟨gx, 4, none⟩) hgxD (.slice (some ⟨g9, 0, none⟩) (y.rules.length + 1) c9)
  have BG8 := BG5.far (p := ⟨gx, 4, none⟩) (by show g1 ≠ gx; omega) (.slice (some ⟨g9, 0, none⟩) (y.rules.length + 1) c9)
  have B08 := B05.far (p := ⟨gx, 4, none⟩) (by show W.heap.size ≠ gx; omega) (.slice (some ⟨g9, 0, none⟩) (y.rules.length + 1) c9)
  have B18 := B15.far (p := ⟨gx, 4, none⟩) (by show W.heap.size + 1 ≠ gx; omega) (.slice (some ⟨g9, 0, none⟩) (y.rules.length + 1) c9)
  have hb8 := bSet (p := ⟨gx, 4, none⟩) (hb4.trans (hb5.mono hb4.size)) (by show W.heap.size ≤ gx; omega) (.slice (some ⟨g9, 0, none⟩) (y.rules.length + 1) c9)
  generalize w5.setCell ⟨gx, 4, none⟩ (.slice (some ⟨g9, 0, none⟩) (y.rules.length + 1) c9) = w8 at *
  clear k4 z4 BX5 own5 B05 B15 hown9 hb5 hbl BG5 hVe hb4
  have u1 := B08.cell 1
  have x0 := BX8.cell 0
  have x1 := BX8.cell 1
  have x2 := BX8.cell 2
  have x3 := BX8.cell 3
  have x4 := BX8.cell 4
  have x5 := BX8.cell 5
  have hle : pre.length * 6 + 6 ≤ cur.size := by rw [hcs]; omega
  have six : ∀ v ∈ (#[.slice q0 y.offs.length m0, .slice q1 y.legs.length m1, .int .i64 y.cls, .int .i64 y.room, .slice (some ⟨g9, 0, none⟩) (y.rules.length + 1) c9, .slice q3 y.off.length m3] : Array Value).toList, v.oneCell' = true := by
    intro v hv
    simp only [List.mem_cons, List.not_mem_nil, or_false] at hv
    rcases hv with rfl | rfl | rfl | rfl | rfl | rfl <;> rfl
  apply wp_region_lit
  iterate 15 go_step
  refine wpList_storeG (by rfl) (by rfl) (by rfl) (by rfl) (store_at (o := pre.length * 6) (X := #[.slice q0 y.offs.length m0, .slice q1 y.legs.length m1, .int .i64 y.cls, .int .i64 y.room, .slice (some ⟨g9, 0, none⟩) (y.rules.length + 1) c9, .slice q3 y.off.length m3]) BG8 line_size hle six) ?_
  simp only [Act.put]
  have BG9 := BG8.row (cur.toList.take (pre.length * 6) ++ (#[.slice q0 y.offs.length m0, .slice q1 y.legs.length m1, .int .i64 y.cls, .int .i64 y.room, .slice (some ⟨g9, 0, none⟩) (y.rules.length + 1) c9, .slice q3 y.off.length m3] : Array Value).toList ++ cur.toList.drop (pre.length * 6 + (#[.slice q0 y.offs.length m0, .slice q1 y.legs.length m1, .int .i64 y.cls, .int .i64 y.room, .slice (some ⟨g9, 0, none⟩) (y.rules.length + 1) c9, .slice q3 y.off.length m3] : Array Value).size)).toArray
  have B09 := B08.farRow (show W.heap.size ≠ g1 by omega) (cur.toList.take (pre.length * 6) ++ (#[.slice q0 y.offs.length m0, .slice q1 y.legs.length m1, .int .i64 y.cls, .int .i64 y.room, .slice (some ⟨g9, 0, none⟩) (y.rules.length + 1) c9, .slice q3 y.off.length m3] : Array Value).toList ++ cur.toList.drop (pre.length * 6 + (#[.slice q0 y.offs.length m0, .slice q1 y.legs.length m1, .int .i64 y.cls, .int .i64 y.room, .slice (some ⟨g9, 0, none⟩) (y.rules.length + 1) c9, .slice q3 y.off.length m3] : Array Value).size)).toArray
  have B19 := B18.farRow (show W.heap.size + 1 ≠ g1 by omega) (cur.toList.take (pre.length * 6) ++ (#[.slice q0 y.offs.length m0, .slice q1 y.legs.length m1, .int .i64 y.cls, .int .i64 y.room, .slice (some ⟨g9, 0, none⟩) (y.rules.length + 1) c9, .slice q3 y.off.length m3] : Array Value).toList ++ cur.toList.drop (pre.length * 6 + (#[.slice q0 y.offs.length m0, .slice q1 y.legs.length m1, .int .i64 y.cls, .int .i64 y.room, .slice (some ⟨g9, 0, none⟩) (y.rules.length + 1) c9, .slice q3 y.off.length m3] : Array Value).size)).toArray
  have own9 := own_farRow own8 (show g1 < wD.heap.size by omega) (cur.toList.take (pre.length * 6) ++ (#[.slice q0 y.offs.length m0, .slice q1 y.legs.length m1, .int .i64 y.cls, .int .i64 y.room, .slice (some ⟨g9, 0, none⟩) (y.rules.length + 1) c9, .slice q3 y.off.length m3] : Array Value).toList ++ cur.toList.drop (pre.length * 6 + (#[.slice q0 y.offs.length m0, .slice q1 y.legs.length m1, .int .i64 y.cls, .int .i64 y.room, .slice (some ⟨g9, 0, none⟩) (y.rules.length + 1) c9, .slice q3 y.off.length m3] : Array Value).size)).toArray
  have hb9 := below_setRowP hb8 (show W.heap.size ≤ g1 by omega) (cur.toList.take (pre.length * 6) ++ (#[.slice q0 y.offs.length m0, .slice q1 y.legs.length m1, .int .i64 y.cls, .int .i64 y.room, .slice (some ⟨g9, 0, none⟩) (y.rules.length + 1) c9, .slice q3 y.off.length m3] : Array Value).toList ++ cur.toList.drop (pre.length * 6 + (#[.slice q0 y.offs.length m0, .slice q1 y.legs.length m1, .int .i64 y.cls, .int .i64 y.room, .slice (some ⟨g9, 0, none⟩) (y.rules.length + 1) c9, .slice q3 y.off.length m3] : Array Value).size)).toArray
  generalize w8.setRow g1 (cur.toList.take (pre.length * 6) ++ (#[.slice q0 y.offs.length m0, .slice q1 y.legs.length m1, .int .i64 y.cls, .int .i64 y.room, .slice (some ⟨g9, 0, none⟩) (y.rules.length + 1) c9, .slice q3 y.off.length m3] : Array Value).toList ++ cur.toList.drop (pre.length * 6 + (#[.slice q0 y.offs.length m0, .slice q1 y.legs.length m1, .int .i64 y.cls, .int .i64 y.room, .slice (some ⟨g9, 0, none⟩) (y.rules.length + 1) c9, .slice q3 y.off.length m3] : Array Value).size)).toArray = w9 at *
  have eC : (#[.slice q0 y.offs.length m0, .slice q1 y.legs.length m1, .int .i64 y.cls, .int .i64 y.room, .slice (some ⟨g9, 0, none⟩) (y.rules.length + 1) c9, .slice q3 y.off.length m3] : Array Value).size = 6 := rfl
  rw [eC] at BG9
  clear eC u1 x0 x1 x2 x3 x4 x5 BX8 BG8 B08 B18 own8 hb8
  have u0 := B09.cell 0
  have u1 := B09.cell 1
  have v0 := B19.cell 0
  have v1 := B19.cell 1
  have z0 := B19.frozen 0
  have z1 := B19.frozen 1
  have hbF := bSet (p := ⟨W.heap.size + 1, 1, none⟩) (bSet (p := ⟨W.heap.size + 1, 0, none⟩) hb9 (Nat.le_succ _) (.int .i64 offs)) (Nat.le_succ _) (.slice (some ⟨g1, 0, none⟩) (pre.length + 1) c1)
  have B1F : Blk ((w9.setCell ⟨W.heap.size + 1, 0, none⟩ (.int .i64 offs)).setCell ⟨W.heap.size + 1, 1, none⟩ (.slice (some ⟨g1, 0, none⟩) (pre.length + 1) c1)) (W.heap.size + 1) 24 #[.int .i64 offs, .slice (some ⟨g1, 0, none⟩) (pre.length + 1) c1] := (B19.set_ 0 _).set_ 1 _
  have hHg : W.heap.size + 1 < g1 := by omega
  have BGF := (BG9.far (p := ⟨W.heap.size + 1, 0, none⟩) (by show g1 ≠ W.heap.size + 1; omega) (.int .i64 offs)).far (p := ⟨W.heap.size + 1, 1, none⟩) (by show g1 ≠ W.heap.size + 1; omega) (.slice (some ⟨g1, 0, none⟩) (pre.length + 1) c1)
  have ownF := own_far (own_far own9 (p := ⟨W.heap.size + 1, 0, none⟩) (by show W.heap.size + 1 < wD.heap.size; omega) (.int .i64 offs)) (p := ⟨W.heap.size + 1, 1, none⟩) (by show W.heap.size + 1 < wD.heap.size; omega) (.slice (some ⟨g1, 0, none⟩) (pre.length + 1) c1)
  clear BG9 own9 hb9
  go_wp2_with fail
  refine bodyPost_ret (results_cell_row rfl _ _ (W.heap.size + 1) 24 _ (0, 0) _ rfl B1F Tryz.underlying24 rfl tt_info) rfl ⟨g1, c1, by simp, fun wZ kk => ?_, hbF⟩
  have hgxW := hgxD
  generalize (w9.setCell ⟨W.heap.size + 1, 0, none⟩ (.int .i64 offs)).setCell ⟨W.heap.size + 1, 1, none⟩ (.slice (some ⟨g1, 0, none⟩) (pre.length + 1) c1) = wF at *
  have eX : LS.cl ⟨q0, q1, some ⟨g9, 0, none⟩, q3, m0, m1, c9, m3⟩ ({ y with rules := y.rules ++ [⟨a0, a1, a2⟩] }) = (#[.slice q0 y.offs.length m0, .slice q1 y.legs.length m1, .int .i64 y.cls, .int .i64 y.room, .slice (some ⟨g9, 0, none⟩) (y.rules.length + 1) c9, .slice q3 y.off.length m3] : Array Value).toList := by
    unfold LS.cl
    simp
  have rdF : Rd wZ wZ.heap.size 6 (some ⟨g1, 0, none⟩) (pre.length + 1) (C0 ++ LS.cl ⟨q0, q1, some ⟨g9, 0, none⟩, q3, m0, m1, c9, m3⟩ ({ y with rules := y.rules ++ [⟨a0, a1, a2⟩] })) := by
    rw [eX]
    exact rd_store htk hC0 rfl (kk.blk BGF (by omega))
  have rdN := rd_ownN (kk.own ownF (by omega))
  have ko := kk.old hbF hB (Nat.le_refl _)
  have hBZ : B ≤ wZ.heap.size := Nat.le_trans hB (Nat.le_trans hbF.size kk.1)
  refine lines_new (q := ⟨q0, q1, some ⟨g9, 0, none⟩, q3, m0, m1, c9, m3⟩) hlp (by rw [hc0.out]; exact rdF) (Low.of (by omega)) ⟨(hy.r0.keepW ko).more hBZ, (hy.r1.keepW ko).more hBZ, by rw [List.length_append, List.flatMap_append]; exact rdN, (hy.r3.keepW ko).more hBZ⟩ hyc ⟨hyl.1, hyl.2.1, Low.of hg9N, hyl.2.2.2⟩ (fun k z hz => ?_)
  obtain ⟨q', f1, f2, f3, f4⟩ := hpre k z hz
  exact ⟨q', f1, (f2.keepW ko).more hBZ, f3, f4⟩
theorem rp_inGap (offs : Int) (al : Option Addr) (cl_ : Nat) (l : List Lin) (gn cn : Nat) (a0 a1 : Int) (B N : Nat) (W : World) (hB : B ≤ W.heap.size) (hN : N ≤ W.heap.size) (hC : LinsN W B N al l) (hne : l ≠ []) (hm : l.length ≤ 1000000) (hmy : ∀ y ∈ l, y.rules.length ≤ 1000000 ∧ y.off.length ≤ 1000000) (hn : Rd W W.heap.size 1 (some ⟨gn, 0, none⟩) 2 (ints [a0, a1])) :
    Calls Tryz.prog 60 #[.agg #[.int .i64 offs, .slice al l.length cl_], .slice (some ⟨gn, 0, none⟩) 2 cn] W (InR offs (lastL (fun y => { y with off := y.off ++ [⟨a0, a1⟩] }) l) B N W) := by
  obtain ⟨pre, y, lp, q, b, off, rfl, hlp, rfl, hR, hy, hyc, hyl, hpre⟩ := lines_last hC hne
  obtain ⟨hy4, hy5⟩ := hmy y (by simp)
  rw [lastL_snoc]
  have hyW := hy.more hB
  replace hR := hR.more hB
  have hlen : (pre ++ [y]).length = pre.length + 1 := by simp
  rw [hlen] at hm ⊢
  clear hlen hC hne hmy
  obtain ⟨q0, q1, q2, q3, m0, m1, m2, m3⟩ := q
  have hbn : gn < W.heap.size := by
    obtain ⟨b', off', e1, e2, -⟩ := hn.2 (by decide)
    injection e1 with e1
    injection e1 with e1
    omega
  have n0 : W.cell? ⟨gn, 0, none⟩ = some (.int .i64 a0) := by
    obtain ⟨b2, off2, e1, e2, hc⟩ := hn.2 (by decide)
    injection e1 with e1
    injection e1 with e1 e3
    subst e1; subst e3
    have := hc 0 _ rfl
    rwa [Nat.zero_add] at this
  have n1 : W.cell? ⟨gn, 1, none⟩ = some (.int .i64 a1) := by
    obtain ⟨b2, off2, e1, e2, hc⟩ := hn.2 (by decide)
    injection e1 with e1
    injection e1 with e1 e3
    subst e1; subst e3
    have := hc 1 _ rfl
    rwa [Nat.zero_add] at this
  obtain ⟨C0, hc0⟩ : ∃ C0, Hid (linsCl lp pre = C0) := ⟨_, Lib.hid rfl⟩
  rw [hc0.out] at hR
  have hC0 : C0.length = pre.length * 6 := by rw [← hc0.out]; exact linsCl_len hlp
  have B0 := Blk.new W 24 #[.int .i64 offs, .slice (some ⟨b, off, none⟩) (pre.length + 1) cl_] _ rfl
  have hb := bAl (bRefl W) (.cells #[.int .i64 offs, .slice (some ⟨b, off, none⟩) (pre.length + 1) cl_] 24)
  have hw1 : (W.alloc (.cells #[.int .i64 offs, .slice (some ⟨b, off, none⟩) (pre.length + 1) cl_] 24)).heap.size = W.heap.size + 1 := by simp
  have B1 := Blk.new (W.alloc (.cells #[.int .i64 offs, .slice (some ⟨b, off, none⟩) (pre.length + 1) cl_] 24)) 24 #[.int .i64 0, .slice none 0 0] _ hw1.symm
  replace B0 := B0.alloc (.cells #[.int .i64 0, .slice none 0 0] 24)
  replace hb := bAl hb (.cells #[.int .i64 0, .slice none 0 0] 24)
  go_enter Tryz.func60, Tryz.ntmps60
  go_upto_region 1 with fail
  generalize (W.alloc (.cells #[.int .i64 offs, .slice (some ⟨b, off, none⟩) (pre.length + 1) cl_] 24)).alloc (.cells #[.int .i64 0, .slice none 0 0] 24) = w1 at *
  clear hw1
  have hg1 := B1.lt
  have u1 := (B0.alloc (.cells #[] 56)).cell 1
  have own0 := own_none (w := w1) (e := 56) (sz := 6) (base := w1.heap.size) (Nat.le_refl _)
  have hA := bAl (bRefl w1) (.cells #[] 56)
  have hR1 : Rd (w1.alloc (.cells #[] 56)) W.heap.size 6 (some ⟨b, off, none⟩) (pre.length + 1) (C0 ++ LS.cl ⟨q0, q1, q2, q3, m0, m1, m2, m3⟩ y) := hR.below (bAl hb _)
  have one1 : ∀ u ∈ C0 ++ LS.cl ⟨q0, q1, q2, q3, m0, m1, m2, m3⟩ y, u.oneCell' = true := by rw [← hc0.out, ← linsCl_snoc hlp]; exact lins_one
  have h63 : 0 + (pre.length + 1) ≤ maxLen := by unfold maxLen; omega
  have hby : (0 + (pre.length + 1)) * 112 ≤ 140737488355328 := by omega
  go_upto_region 2 with (at_builtin; refine wpList_appendG (.tmp 7) (.tmp 9) 22 w1.heap.size 56 (.agg #[.slice none 0 0, .slice none 0 0, .int .i64 0, .int .i64 0, .slice none 0 0, .slice none 0 0]) 6 112 _ 0 [] (some ⟨b, off, none⟩) (pre.length + 1) cl_ W.heap.size _ rfl rfl Tryz.underlying22 line_info rfl (by omega) rfl own0 rfl hR1 (fun h => by cases h) one1 h63 hby hA.size ?_; intro v1 w2 hown hgr; have hb2 := hA.trans (hgr.below own0 hA.size); rw [Nat.zero_add, List.nil_append] at hown; obtain ⟨g1, c1, rfl⟩ := own_two hown (by omega); have B02 := B0.below hb2 B0.lt; have B12 := B1.below hb2 B1.lt; have u2 := B02.cell 1; have z2 := B02.frozen 1)
  have hWl : W.heap.size < w1.heap.size := by omega
  have own3 := own_far hown (p := ⟨W.heap.size, 1, none⟩) hWl (.slice (some ⟨g1, 0, none⟩) (pre.length + 1) c1)
  have B03 : Blk (w2.setCell ⟨W.heap.size, 1, none⟩ (.slice (some ⟨g1, 0, none⟩) (pre.length + 1) c1)) W.heap.size 24 #[.int .i64 offs, .slice (some ⟨g1, 0, none⟩) (pre.length + 1) c1] := B02.set_ 1 _
  have B13 := B12.far (p := ⟨W.heap.size, 1, none⟩) (by simp) (.slice (some ⟨g1, 0, none⟩) (pre.length + 1) c1)
  have hb3 := bSet (p := ⟨W.heap.size, 1, none⟩) (bCall hb hb2) (Nat.le_refl _) (.slice (some ⟨g1, 0, none⟩) (pre.length + 1) c1)
  generalize w2.setCell ⟨W.heap.size, 1, none⟩ (.slice (some ⟨g1, 0, none⟩) (pre.length + 1) c1) = w3 at *
  clear u1 u2 z2 B02 B12 hown hgr own0 hA hR1 one1 h63 hby B0 B1 hb hb2 hR
  obtain ⟨-, hg1b, cur3, BG3, -, -, hcs3, htk3⟩ := OwnAt.parts own3
  have el : ∀ (j : Nat) (u : Value), (LS.cl ⟨q0, q1, q2, q3, m0, m1, m2, m3⟩ y)[j]? = some u → w3.cell? ⟨g1, pre.length * 6 + j, none⟩ = some u := fun j u hu => own_cell own3 (by rw [List.getElem?_append_right (by omega), hC0, Nat.add_sub_cancel_left]; exact hu)
  have e0 : w3.cell? ⟨g1, pre.length * 6, none⟩ = _ := el 0 _ rfl
  have e1 := el 1 _ rfl
  have e2 := el 2 _ rfl
  have e3 := el 3 _ rfl
  have e4 := el 4 _ rfl
  have e5 := el 5 _ rfl
  clear el
  have u1 := B03.cell 1
  have k1 : IntKind.i64.wrap ((pre.length : Int) + 1 - 1) = (pre.length : Int) := by rw [IntKind.wrap_i64]; omega
  have k2 : IntKind.i64.wrap (pre.length : Int) = (pre.length : Int) := by rw [IntKind.wrap_i64]; omega
  have i0 : (0 : Int) ≤ (pre.length : Int) := by omega
  have i1 : (pre.length : Int) < (pre.length : Int) + 1 := by omega
  go_upto_region 6 with fail
  have BX4 := Blk.new w3 56 #[.slice q0 y.offs.length m0, .slice q1 y.legs.length m1, .int .i64 y.cls, .int .i64 y.room, .slice q2 y.rules.length m2, .slice q3 y.off.length m3] _ rfl
  have B04 := B03.alloc (.cells #[.slice q0 y.offs.length m0, .slice q1 y.legs.length m1, .int .i64 y.cls, .int .i64 y.room, .slice q2 y.rules.length m2, .slice q3 y.off.length m3] 56)
  have B14 := B13.alloc (.cells #[.slice q0 y.offs.length m0, .slice q1 y.legs.length m1, .int .i64 y.cls, .int .i64 y.room, .slice q2 y.rules.length m2, .slice q3 y.off.length m3] 56)
  have own4 := own3.alloc (.cells #[.slice q0 y.offs.length m0, .slice q1 y.legs.length m1, .int .i64 y.cls, .int .i64 y.room, .slice q2 y.rules.length m2, .slice q3 y.off.length m3] 56)
  have hb4 := bAl hb3 (.cells #[.slice q0 y.offs.length m0, .slice q1 y.legs.length m1, .int .i64 y.cls, .int .i64 y.room, .slice q2 y.rules.length m2, .slice q3 y.off.length m3] 56)
  have hgx := BG3.lt
  generalize w3.alloc (.cells #[.slice q0 y.offs.length m0, .slice q1 y.legs.length m1, .int .i64 y.cls, .int .i64 y.room, .slice q2 y.rules.length m2, .slice q3 y.off.length m3] 56) = w4 at *
  have hxw := BX4.lt
  have hgn4 : gn < w4.heap.size := Nat.lt_of_lt_of_le hbn hb4.size
  have f0 : w4.cell? ⟨gn, 0, none⟩ = some (.int .i64 a0) := (hb4.cell (p := ⟨gn, 0, none⟩) hbn).trans n0
  have f1 : w4.cell? ⟨gn, 1, none⟩ = some (.int .i64 a1) := (hb4.cell (p := ⟨gn, 1, none⟩) hbn).trans n1
  clear u1 e0 e1 e2 e3 e4 e5 k1 B03 B13 own3 hb3 BG3 htk3 hcs3
  generalize w3.heap.size = gx at *
  have hH1 := B14.lt
  have KS : Hid (∀ w', Below w4.heap.size w4 w' → w'.cell? ⟨gx, 5, none⟩ = some (.slice q3 y.off.length m3) ∧ w'.cell? ⟨gn, 0, none⟩ = some (.int .i64 a0) ∧ w'.cell? ⟨gn, 1, none⟩ = some (.int .i64 a1)) := Lib.hid (fun w' bb => ⟨(BX4.below bb BX4.lt).cell 5, (bb.cell (p := ⟨gn, 0, none⟩) hgn4).trans f0, (bb.cell (p := ⟨gn, 1, none⟩) hgn4).trans f1⟩)
  have r2 : ∀ w, (Instr.buildSlice 54 1 #[(0, .agg #[.int .i64 a0, .int .i64 a1])]).run Tryz.prog w = .ok (.slice (some ⟨w.heap.size, 0, none⟩) 1 1) (w.alloc (.cells [.int .i64 a0, .int .i64 a1].toArray 61)) := fun w => run_one (z := #[.int .i64 0, .int .i64 0]) Tryz.underlying54 gap_info rfl (by omega) (by omega) w
  have onex : ∀ u ∈ [Value.int .i64 a0, Value.int .i64 a1], u.oneCell' = true := by intro u hu; simp at hu; rcases hu with rfl | rfl <;> rfl
  have oney : ∀ u ∈ y.off.flatMap Gp.cl, u.oneCell' = true := by
    intro u hu
    obtain ⟨z, _, hz⟩ := List.mem_flatMap.1 hu
    unfold Gp.cl at hz
    simp only [List.mem_cons, List.not_mem_nil, or_false] at hz
    rcases hz with rfl | rfl <;> rfl
  have g63 : y.off.length + 1 ≤ maxLen := by unfold maxLen; omega
  have gby : (y.off.length + 1) * 16 ≤ 140737488355328 := by omega
  refine wp_region_schU (fun w' => w'.cell? ⟨gx, 5, none⟩ = some (.slice q3 y.off.length m3) ∧ w'.cell? ⟨gn, 0, none⟩ = some (.int .i64 a0) ∧ w'.cell? ⟨gn, 1, none⟩ = some (.int .i64 a1)) 12 6 [(1, 1), (2, 2), (4, 1), (5, 1), (6, 2), (7, 1), (8, 1), (9, 2), (10, 1)] (KS.out _ (bDr (bRefl w4))) ?_
  simp only [pickS, List.getElem?_cons_zero, List.getElem?_cons_succ]
  refine wpSchedU_t ?_
  refine wpSchedU_r ?_
  refine wpSchedU_t ?_
  refine wpSchedU_t ?_
  refine wpSchedU_r ?_
  refine wpSchedU_t ?_
  refine wpSchedU_t ?_
  refine wpSchedU_r ?_
  refine wpSchedU_t ?_
  have hD := bDr (bRefl w4)
  generalize w4.drew = wD at *
  refine anyU_fresh 0 3 11 12 [(12, 3), (13, 3), (14, 3)] 54 61 (.agg #[.int .i64 0, .int .i64 0]) 2 16 q3 y.off.length m3 W.heap.size (y.off.flatMap Gp.cl) [.int .i64 a0, .int .i64 a1] (.agg #[.int .i64 a0, .int .i64 a1]) Tryz.underlying54 gap_info rfl (by omega) ((hyW.r3).below (hb4.trans (hD.mono hb4.size))) (Nat.le_trans hb4.size hD.size) rfl r2 oney onex g63 gby (fun w' bb => KS.out _ (hD.trans (bb.mono hD.size))) (fun x0 x1 x2 v9 w5 hown9 hbl => ?_)
  obtain ⟨g9, c9, rfl⟩ := own_two hown9 (by omega)
  have hg9 : wD.heap.size ≤ g9 := (OwnAt.parts hown9).2.1
  have hg9N : N ≤ g9 := by have := hb4.size; have := hD.size; omega
  simp only [Act.put, List.setIfInBounds_toArray, List.set_cons_zero, List.set_cons_succ]
  have hb5 := hD.trans (hbl.mono hD.size)
  have BX5 := BX4.below hb5 BX4.lt
  have k4 := BX5.cell 5
  have z4 := BX5.frozen 5
  have own5 := ownsRow_keep own4 hb5
  have B05 := B04.below hb5 B04.lt
  have B15 := B14.below hb5 B14.lt
  clear KS r2 onex oney
  go_wp2_with fail
  refine NoPanic.normal ?_
  go_upto_region 7 with fail
  have hw9 : w4.heap.size ≤ wD.heap.size := hD.size
  obtain ⟨-, -, cur, BG5, hc1, -, hcs, htk⟩ := OwnAt.parts own5
  have hVe : (#[.slice q0 y.offs.length m0, .slice q1 y.legs.length m1, .int .i64 y.cls, .int .i64 y.room, .slice q2 y.rules.length m2, .slice q3 y.off.length m3] : Array Value).setIfInBounds 5 (.slice (some ⟨g9, 0, none⟩) (y.off.length + 1) c9) = #[.slice q0 y.offs.length m0, .slice q1 y.legs.length m1, .int .i64 y.cls, .int .i64 y.room, .slice q2 y.rules.length m2, .slice (some ⟨g9, 0, none⟩) (y.off.length + 1) c9] := rfl
  have BX8 := BX5.set_ 5 (.slice (some ⟨g9, 0, none⟩) (y.off.length + 1) c9)
  rw [hVe] at BX8
  have hgxD : gx < wD.heap.size := by omega
  have own8 := own_far hown9 (p := ⟨gx, 5, none⟩) hgxD (.slice (some ⟨g9, 0, none⟩) (y.off.length + 1) c9)
  have BG8 := BG5.far (p := ⟨gx, 5, none⟩) (by show g1 ≠ gx; omega) (.slice (some ⟨g9, 0, none⟩) (y.off.length + 1) c9)
  have B08 := B05.far (p := ⟨gx, 5, none⟩) (by show W.heap.size ≠ gx; omega) (.slice (some ⟨g9, 0, none⟩) (y.off.length + 1) c9)
  have B18 := B15.far (p := ⟨gx, 5, none⟩) (by show W.heap.size + 1 ≠ gx; omega) (.slice (some ⟨g9, 0, none⟩) (y.off.length + 1) c9)
  have hb8 := bSet (p := ⟨gx, 5, none⟩) (hb4.trans (hb5.mono hb4.size)) (by show W.heap.size ≤ gx; omega) (.slice (some ⟨g9, 0, none⟩) (y.off.length + 1) c9)
  generalize w5.setCell ⟨gx, 5, none⟩ (.slice (some ⟨g9, 0, none⟩) (y.off.length + 1) c9) = w8 at *
  clear k4 z4 BX5 own5 B05 B15 hown9 hb5 hbl BG5 hVe hb4
  have u1 := B08.cell 1
  have x0 := BX8.cell 0
  have x1 := BX8.cell 1
  have x2 := BX8.cell 2
  have x3 := BX8.cell 3
  have x4 := BX8.cell 4
  have x5 := BX8.cell 5
  have hle : pre.length * 6 + 6 ≤ cur.size := by rw [hcs]; omega
  have six : ∀ v ∈ (#[.slice q0 y.offs.length m0, .slice q1 y.legs.length m1, .int .i64 y.cls, .int .i64 y.room, .slice q2 y.rules.length m2, .slice (some ⟨g9, 0, none⟩) (y.off.length + 1) c9] : Array Value).toList, v.oneCell' = true := by
    intro v hv
    simp only [List.mem_cons, List.not_mem_nil, or_false] at hv
    rcases hv with rfl | rfl | rfl | rfl | rfl | rfl <;> rfl
  apply wp_region_lit
  iterate 15 go_step
  refine wpList_storeG (by rfl) (by rfl) (by rfl) (by rfl) (store_at (o := pre.length * 6) (X := #[.slice q0 y.offs.length m0, .slice q1 y.legs.length m1, .int .i64 y.cls, .int .i64 y.room, .slice q2 y.rules.length m2, .slice (some ⟨g9, 0, none⟩) (y.off.length + 1) c9]) BG8 line_size hle six) ?_
  simp only [Act.put]
  have BG9 := BG8.row (cur.toList.take (pre.length * 6) ++ (#[.slice q0 y.offs.length m0, .slice q1 y.legs.length m1, .int .i64 y.cls, .int .i64 y.room, .slice q2 y.rules.length m2, .slice (some ⟨g9, 0, none⟩) (y.off.length + 1) c9] : Array Value).toList ++ cur.toList.drop (pre.length * 6 + (#[.slice q0 y.offs.length m0, .slice q1 y.legs.length m1, .int .i64 y.cls, .int .i64 y.room, .slice q2 y.rules.length m2, .slice (some ⟨g9, 0, none⟩) (y.off.length + 1) c9] : Array Value).size)).toArray
  have B09 := B08.farRow (show W.heap.size ≠ g1 by omega) (cur.toList.take (pre.length * 6) ++ (#[.slice q0 y.offs.length m0, .slice q1 y.legs.length m1, .int .i64 y.cls, .int .i64 y.room, .slice q2 y.rules.length m2, .slice (some ⟨g9, 0, none⟩) (y.off.length + 1) c9] : Array Value).toList ++ cur.toList.drop (pre.length * 6 + (#[.slice q0 y.offs.length m0, .slice q1 y.legs.length m1, .int .i64 y.cls, .int .i64 y.room, .slice q2 y.rules.length m2, .slice (some ⟨g9, 0, none⟩) (y.off.length + 1) c9] : Array Value).size)).toArray
  have B19 := B18.farRow (show W.heap.size + 1 ≠ g1 by omega) (cur.toList.take (pre.length * 6) ++ (#[.slice q0 y.offs.length m0, .slice q1 y.legs.length m1, .int .i64 y.cls, .int .i64 y.room, .slice q2 y.rules.length m2, .slice (some ⟨g9, 0, none⟩) (y.off.length + 1) c9] : Array Value).toList ++ cur.toList.drop (pre.length * 6 + (#[.slice q0 y.offs.length m0, .slice q1 y.legs.length m1, .int .i64 y.cls, .int .i64 y.room, .slice q2 y.rules.length m2, .slice (some ⟨g9, 0, none⟩) (y.off.length + 1) c9] : Array Value).size)).toArray
  have own9 := own_farRow own8 (show g1 < wD.heap.size by omega) (cur.toList.take (pre.length * 6) ++ (#[.slice q0 y.offs.length m0, .slice q1 y.legs.length m1, .int .i64 y.cls, .int .i64 y.room, .slice q2 y.rules.length m2, .slice (some ⟨g9, 0, none⟩) (y.off.length + 1) c9] : Array Value).toList ++ cur.toList.drop (pre.length * 6 + (#[.slice q0 y.offs.length m0, .slice q1 y.legs.length m1, .int .i64 y.cls, .int .i64 y.room, .slice q2 y.rules.length m2, .slice (some ⟨g9, 0, none⟩) (y.off.length + 1) c9] : Array Value).size)).toArray
  have hb9 := below_setRowP hb8 (show W.heap.size ≤ g1 by omega) (cur.toList.take (pre.length * 6) ++ (#[.slice q0 y.offs.length m0, .slice q1 y.legs.length m1, .int .i64 y.cls, .int .i64 y.room, .slice q2 y.rules.length m2, .slice (some ⟨g9, 0, none⟩) (y.off.length + 1) c9] : Array Value).toList ++ cur.toList.drop (pre.length * 6 + (#[.slice q0 y.offs.length m0, .slice q1 y.legs.length m1, .int .i64 y.cls, .int .i64 y.room, .slice q2 y.rules.length m2, .slice (some ⟨g9, 0, none⟩) (y.off.length + 1) c9] : Array Value).size)).toArray
  generalize w8.setRow g1 (cur.toList.take (pre.length * 6) ++ (#[.slice q0 y.offs.length m0, .slice q1 y.legs.length m1, .int .i64 y.cls, .int .i64 y.room, .slice q2 y.rules.length m2, .slice (some ⟨g9, 0, none⟩) (y.off.length + 1) c9] : Array Value).toList ++ cur.toList.drop (pre.length * 6 + (#[.slice q0 y.offs.length m0, .slice q1 y.legs.length m1, .int .i64 y.cls, .int .i64 y.room, .slice q2 y.rules.length m2, .slice (some ⟨g9, 0, none⟩) (y.off.length + 1) c9] : Array Value).size)).toArray = w9 at *
  have eC : (#[.slice q0 y.offs.length m0, .slice q1 y.legs.length m1, .int .i64 y.cls, .int .i64 y.room, .slice q2 y.rules.length m2, .slice (some ⟨g9, 0, none⟩) (y.off.length + 1) c9] : Array Value).size = 6 := rfl
  rw [eC] at BG9
  clear eC u1 x0 x1 x2 x3 x4 x5 BX8 BG8 B08 B18 own8 hb8
  have u0 := B09.cell 0
  have u1 := B09.cell 1
  have v0 := B19.cell 0
  have v1 := B19.cell 1
  have z0 := B19.frozen 0
  have z1 := B19.frozen 1
  have hbF := bSet (p := ⟨W.heap.size + 1, 1, none⟩) (bSet (p := ⟨W.heap.size + 1, 0, none⟩) hb9 (Nat.le_succ _) (.int .i64 offs)) (Nat.le_succ _) (.slice (some ⟨g1, 0, none⟩) (pre.length + 1) c1)
  have B1F : Blk ((w9.setCell ⟨W.heap.size + 1, 0, none⟩ (.int .i64 offs)).setCell ⟨W.heap.size + 1, 1, none⟩ (.slice (some ⟨g1, 0, none⟩) (pre.length + 1) c1)) (W.heap.size + 1) 24 #[.int .i64 offs, .slice (some ⟨g1, 0, none⟩) (pre.length + 1) c1] := (B19.set_ 0 _).set_ 1 _
  have hHg : W.heap.size + 1 < g1 := by omega
  have BGF := (BG9.far (p := ⟨W.heap.size + 1, 0, none⟩) (by show g1 ≠ W.heap.size + 1; omega) (.int .i64 offs)).far (p := ⟨W.heap.size + 1, 1, none⟩) (by show g1 ≠ W.heap.size + 1; omega) (.slice (some ⟨g1, 0, none⟩) (pre.length + 1) c1)
  have ownF := own_far (own_far own9 (p := ⟨W.heap.size + 1, 0, none⟩) (by show W.heap.size + 1 < wD.heap.size; omega) (.int .i64 offs)) (p := ⟨W.heap.size + 1, 1, none⟩) (by show W.heap.size + 1 < wD.heap.size; omega) (.slice (some ⟨g1, 0, none⟩) (pre.length + 1) c1)
  clear BG9 own9 hb9
  go_wp2_with fail
  refine bodyPost_ret (results_cell_row rfl _ _ (W.heap.size + 1) 24 _ (0, 0) _ rfl B1F Tryz.underlying24 rfl tt_info) rfl ⟨g1, c1, by simp, fun wZ kk => ?_, hbF⟩
  have hgxW := hgxD
  generalize (w9.setCell ⟨W.heap.size + 1, 0, none⟩ (.int .i64 offs)).setCell ⟨W.heap.size + 1, 1, none⟩ (.slice (some ⟨g1, 0, none⟩) (pre.length + 1) c1) = wF at *
  have eX : LS.cl ⟨q0, q1, q2, some ⟨g9, 0, none⟩, m0, m1, m2, c9⟩ ({ y with off := y.off ++ [⟨a0, a1⟩] }) = (#[.slice q0 y.offs.length m0, .slice q1 y.legs.length m1, .int .i64 y.cls, .int .i64 y.room, .slice q2 y.rules.length m2, .slice (some ⟨g9, 0, none⟩) (y.off.length + 1) c9] : Array Value).toList := by
    unfold LS.cl
    simp
  have rdF : Rd wZ wZ.heap.size 6 (some ⟨g1, 0, none⟩) (pre.length + 1) (C0 ++ LS.cl ⟨q0, q1, q2, some ⟨g9, 0, none⟩, m0, m1, m2, c9⟩ ({ y with off := y.off ++ [⟨a0, a1⟩] })) := by
    rw [eX]
    exact rd_store htk hC0 rfl (kk.blk BGF (by omega))
  have rdN := rd_ownN (kk.own ownF (by omega))
  have ko := kk.old hbF hB (Nat.le_refl _)
  have hBZ : B ≤ wZ.heap.size := Nat.le_trans hB (Nat.le_trans hbF.size kk.1)
  refine lines_new (q := ⟨q0, q1, q2, some ⟨g9, 0, none⟩, m0, m1, m2, c9⟩) hlp (by rw [hc0.out]; exact rdF) (Low.of (by omega)) ⟨(hy.r0.keepW ko).more hBZ, (hy.r1.keepW ko).more hBZ, (hy.r2.keepW ko).more hBZ, by rw [List.length_append, List.flatMap_append]; exact rdN⟩ hyc ⟨hyl.1, hyl.2.1, hyl.2.2.1, Low.of hg9N⟩ (fun k z hz => ?_)
  obtain ⟨q', f1, f2, f3, f4⟩ := hpre k z hz
  exact ⟨q', f1, (f2.keepW ko).more hBZ, f3, f4⟩
theorem ints_cells {l : List Int} : ∀ u ∈ ints l, u.oneCell' = true := by
  intro u hu
  unfold ints at hu
  obtain ⟨a, _, rfl⟩ := List.mem_map.1 hu
  rfl
theorem NumsR.shape {o : Option (List Int)} {W w' : World} {e : Ending} (h : NumsR o W e w') : ∃ (v : Value) (ok : Bool), e = .returned (.tuple #[v, .bool ok]) ∧ NumsR o W (.returned (.tuple #[v, .bool ok])) w' := by
  cases o with
  | none =>
    obtain ⟨h1, b⟩ := h
    exact ⟨_, _, h1, by rw [← h1]; exact ⟨h1, b⟩⟩
  | some ns =>
    obtain ⟨⟨v, h1, hv⟩, b⟩ := h
    exact ⟨v, true, h1, ⟨v, rfl, hv⟩, b⟩
structure Wld.lim (x : Wld) (m : Nat) : Prop where
  lines : x.lines.length ≤ m
  line : ∀ y ∈ x.lines, y.rules.length ≤ m ∧ y.off.length ≤ m
  base : x.base.length ≤ m
  leg : x.leg.length ≤ m
  tiers : x.tiers.length ≤ m
  orders : x.orders.length ≤ m
  ents : x.ents.length ≤ m
  secs : x.secs.length ≤ m
  faults : x.faults.length ≤ m
theorem run_oneI (n : Int) (w : World) : (Instr.buildSlice 25 1 #[(0, .int .i64 n)]).run Tryz.prog w = .ok (.slice (some ⟨w.heap.size, 0, none⟩) 1 1) (w.alloc (.cells [Value.int .i64 n].toArray 3)) := by
  go_simp
theorem one_int {n : Int} : ∀ u ∈ [Value.int .i64 n], u.oneCell' = true := by intro u hu; simp at hu; rcases hu with rfl; rfl
def rowO (x : Wld) (k : Nat) : Option (List Int) → Option Wld
  | some ns => if formR k ns = true then some (addR x (k, ns)) else none
  | none => none
theorem readR_k {x : Wld} {k : Nat} {l : List By} (hk : k ≠ 1) : readR x k l = rowO x k (numsO l) := by
  unfold readR
  rw [if_neg hk]
  cases numsO l <;> rfl
theorem sl_of {w : World} {base n sz : Nat} {e : TypeId} {v : Value} {xs : List Value} (h : w.ownsRow base e sz v n xs) : ∃ A c, v = .slice A n c := by
  rcases h.2 with ⟨rfl, rfl⟩ | ⟨g, cap, cur, rfl, _⟩
  · exact ⟨none, 0, rfl⟩
  · exact ⟨_, _, rfl⟩
theorem rp_line9 (N0 : Nat) (s : WS) (x : Wld) (A : Option Addr) (c : Nat) (rest : List ByteArray) (W : World) (hk : WK W W.heap.size N0 s x) (hNW : N0 ≤ W.heap.size) (hsd : x.seed.length = 32) (hsb : ∀ d ∈ x.seed, d < 256) (hlim : x.lim 1000000) (hA : Rd W W.heap.size 1 A (rest.length + 1) (strs (⟨#[115, 101, 99, 114, 101, 116]⟩ :: rest))) (hcap : rest.length + 1 ≤ c) (hl : ∀ t ∈ rest, t.size ≤ 1000000) (hn : rest.length ≤ 1000000) :
    Calls Tryz.prog 32 #[.agg (s.cl x).toArray, .slice A (rest.length + 1) c] W (LineR N0 (readR x 9 (bys rest)) W) := by
  have hXs : (s.cl x).toArray.size = 43 := wsCl_size hsd
  have hX1 : ∀ v ∈ (s.cl x).toArray.toList, v.oneCell' = true := ws_cell
  have hZs : (nilWS.cl zeroW).toArray.size = 43 := wsCl_size rfl
  rw [readR_k (by decide)]
  obtain ⟨o, ho⟩ : ∃ o, Hid (rowO x 9 (numsO (bys rest)) = o) := ⟨_, Lib.hid rfl⟩
  rw [ho.out]
  obtain ⟨lb, off, rfl, hlb, hc⟩ := hA.2 (by omega)
  have c0W : W.cell? ⟨lb, off, none⟩ = some (.string ⟨#[115, 101, 99, 114, 101, 116]⟩) := hc 0 _ rfl
  have hAr : Rd W W.heap.size 1 (some ⟨lb, off + 1, none⟩) rest.length (strs rest) := ⟨by unfold strs; simp, fun _ => ⟨lb, off + 1, rfl, hlb, fun j u hu => by
    have := hc (j + 1) u (by unfold strs at hu ⊢; simpa using hu)
    rwa [show off + 1 + j = off + (j + 1) by omega]⟩⟩
  clear hc hA
  have BX := Blk.new W 35 (s.cl x).toArray _ rfl
  have hb := bAl (bRefl W) (.cells (s.cl x).toArray 35)
  have hw1 : (W.alloc (.cells (s.cl x).toArray 35)).heap.size = W.heap.size + 1 := by simp
  have BR := Blk.new (W.alloc (.cells (s.cl x).toArray 35)) 35 (nilWS.cl zeroW).toArray _ hw1.symm
  replace BX := BX.alloc (.cells (nilWS.cl zeroW).toArray 35)
  replace hb := bAl hb (.cells (nilWS.cl zeroW).toArray 35)
  replace hk := Lib.hid hk
  have hc9 : (s.cl x).toArray[9]? = some (.slice s.as_ x.secs.length s.cs) := ws_at (k := 9) rfl
  have hset9 : Hid (∀ (g9 c9 : Nat) (a0 : Int), (s.cl x).toArray.setIfInBounds 9 (.slice (some ⟨g9, 0, none⟩) (x.secs.length + 1) c9) = (WS.cl { s with as_ := some ⟨g9, 0, none⟩, cs := c9 } (addR x (9, [a0]))).toArray) := Lib.hid (fun g9 c9 a0 => by
    rw [List.setIfInBounds_toArray]
    refine congrArg List.toArray ?_
    simp [WS.cl, addR])
  obtain ⟨X, hX⟩ : ∃ X, Hid ((s.cl x).toArray = X) := ⟨_, Lib.hid rfl⟩
  rw [hX.out] at hXs hX1 BX BR hb hw1 hc9 hset9 ⊢
  go_enter Tryz.func32, Tryz.ntmps32
  go_upto_region 1 with fail
  refine (show Code.wp _ _ _ _ ((W.alloc (.cells X 35)).alloc (.cells (nilWS.cl zeroW).toArray 35)) from ?_)
  generalize (nilWS.cl zeroW).toArray = ZW at *
  generalize (W.alloc (.cells X 35)).alloc (.cells ZW 35) = w1 at *
  clear hw1
  have c0 := (hb.cell (p := ⟨lb, off, none⟩) hlb).trans c0W
  have hlb1 : lb < w1.heap.size := Nat.lt_of_lt_of_le hlb hb.size
  have q1 : Hid (Calls Tryz.prog 59 #[.slice (some ⟨lb, off + 1, none⟩) rest.length (c - 1)] w1 (NumsR (numsO (bys rest)) w1)) := Lib.hid (rp_numbers (some ⟨lb, off + 1, none⟩) (c - 1) rest w1 ((hAr.below hb).more hb.size) hl hn)
  have q0 : Hid (rest.length = 0 → Calls Tryz.prog 59 #[.slice (some ⟨lb, off, none⟩) 0 0] w1 (NumsR (numsO (bys rest)) w1)) := Lib.hid (fun h0 => by
    obtain rfl := List.length_eq_zero_iff.1 h0
    exact rp_numbers (some ⟨lb, off, none⟩) 0 [] w1 ⟨rfl, fun h => absurd h (by decide)⟩ hl hn)
  have j0 : (1 : Int) ≤ (rest.length : Int) + 1 := by omega
  have j1 : (rest.length : Int) + 1 ≤ (c : Int) := by omega
  have j2 : (0 : Int) ≤ (rest.length : Int) + 1 := by omega
  have hH1 := BR.lt
  clear hAr c0W hl
  have v1 : ((⟨#[115, 101, 99, 114, 101, 116]⟩ : ByteArray).toList == (⟨#[119, 111, 114, 108, 100]⟩ : ByteArray).toList) = false := str_ne (by decide)
  have v2 : ((⟨#[115, 101, 99, 114, 101, 116]⟩ : ByteArray).toList == (⟨#[99, 108, 97, 115, 115]⟩ : ByteArray).toList) = false := str_ne (by decide)
  have v3 : ((⟨#[115, 101, 99, 114, 101, 116]⟩ : ByteArray).toList == (⟨#[116, 105, 101, 114]⟩ : ByteArray).toList) = false := str_ne (by decide)
  have v4 : ((⟨#[115, 101, 99, 114, 101, 116]⟩ : ByteArray).toList == (⟨#[108, 105, 110, 101]⟩ : ByteArray).toList) = false := str_ne (by decide)
  have v5 : ((⟨#[115, 101, 99, 114, 101, 116]⟩ : ByteArray).toList == (⟨#[114, 117, 108, 101]⟩ : ByteArray).toList) = false := str_ne (by decide)
  have v6 : ((⟨#[115, 101, 99, 114, 101, 116]⟩ : ByteArray).toList == (⟨#[103, 97, 112]⟩ : ByteArray).toList) = false := str_ne (by decide)
  have v7 : ((⟨#[115, 101, 99, 114, 101, 116]⟩ : ByteArray).toList == (⟨#[111, 114, 100, 101, 114]⟩ : ByteArray).toList) = false := str_ne (by decide)
  have v8 : ((⟨#[115, 101, 99, 114, 101, 116]⟩ : ByteArray).toList == (⟨#[101, 110, 116, 114, 121]⟩ : ByteArray).toList) = false := str_ne (by decide)
  have hnl : Hid (∀ ns, numsO (bys rest) = some ns → ns.length ≤ 1000000) := Lib.hid (fun ns h => by have := numsO_len h; unfold bys at this; rw [List.length_map] at this; omega)
  generalize numsO (bys rest) = on at *
  have hc4 : (c : Int) - 1 = ((c - 1 : Nat) : Int) := by omega
  have j3 : (rest.length : Int) + 1 - 1 = (rest.length : Int) := by omega
  go_upto_region 3 with fail
  go_cut [6, 7] from 21 to 26 (fun s6 s7 wc => NumsR on w1 (.returned (.tuple #[s6, s7])) wc)
  case first =>
    by_cases hc1 : c = 1
    · have q := (q0.out (by omega)).mono (fun _ _ h => h.shape)
      subst hc1
      go_wp2_with (go_at_call 59; (with_reducible refine q.mono ?_); rintro e w2 ⟨v, ok, rfl, h⟩)
      go_meet
      exact h
    · have q := q1.out.mono (fun _ _ h => h.shape)
      have hc5 : ¬ (c - 1 = 0) := by omega
      have hc6 : ¬ (((c - 1 : Nat) : Int) = 0) := by omega
      go_wp2_with (go_at_call 59; (with_reducible refine q.mono ?_); rintro e w2 ⟨v, ok, rfl, h⟩)
      go_meet
      exact h
  case rest =>
  clear q1 q0 hc4 j0 j1 j2 j3 hn
  cases on with
  | none =>
    have hno : Hid (o = none) := Lib.hid ho.out.symm
    obtain ⟨h6, b2⟩ := hcut
    have h6 : Ending.returned (.tuple #[u6, u7]) = .returned (.tuple #[.slice none 0 0, .bool false]) := h6
    obtain ⟨rfl, rfl⟩ : u6 = .slice none 0 0 ∧ u7 = .bool false := by simpa using h6
    go_upto_region 5 with fail
    apply wp_region_lit
    refine wpList_loadG (by rfl) (by rfl) (by rfl) (load_blk (BX.below b2 BX.lt) Tryz.underlying35 rfl (by rw [hXs]; exact world_info)) ?_
    simp only [Act.put]
    refine wpList_storeG (by rfl) (by rfl) (by rfl) (by rfl) (store_whole (BR.below b2 BR.lt) (by rw [hXs]; exact world_info) (by rw [hZs, hXs]) hX1) ?_
    simp only [Act.put]
    have b9 := below_setRowP (bCall hb b2) (Nat.le_succ W.heap.size) X
    have B9 := (BR.below b2 BR.lt).row X
    go_wp2_with fail
    exact line_leaves rfl rfl rfl hXs B9 (LineR.no hno.out b9 hXs hX1) rfl
  | some ns =>
    obtain ⟨⟨v6, h6, hv⟩, b2⟩ := hcut
    obtain ⟨rfl, rfl⟩ : u6 = v6 ∧ u7 = .bool true := by simpa using h6
    have hv : wc.ownsRow w1.heap.size 3 1 u6 ns.length (ints ns) := hv
    have ho2 : Hid ((if formR 9 ns = true then some (addR x (9, ns)) else none) = o) := ho
    have c02 := (b2.cell (p := ⟨lb, off, none⟩) hlb1).trans c0
    have hb2 := bCall hb b2
    have BX2 := BX.below b2 BX.lt
    have BR2 := BR.below b2 BR.lt
    have hH2 : W.heap.size + 1 < wc.heap.size := BR2.lt
    obtain ⟨An, cn, rfl⟩ := sl_of hv
    clear ho h6 hb BX BR c0 hlb1
    by_cases hN : ns.length = 1
    case neg =>
      have g1 : ((ns.length : Int) != 1) = true := by rw [bne_iff_ne]; omega
      have hno : Hid (o = none) := Lib.hid (ho2.out.symm.trans (if_neg (by show ¬ decide (ns.length = 1) = true; simp [hN])))
      go_upto_region 42 with fail
      apply wp_region_lit
      refine wpList_loadG (by rfl) (by rfl) (by rfl) (load_blk BX2 Tryz.underlying35 rfl (by rw [hXs]; exact world_info)) ?_
      simp only [Act.put]
      refine wpList_storeG (by rfl) (by rfl) (by rfl) (by rfl) (store_whole BR2 (by rw [hXs]; exact world_info) (by rw [hZs, hXs]) hX1) ?_
      simp only [Act.put]
      have b9 := below_setRowP hb2 (Nat.le_succ W.heap.size) X
      have B9 := BR2.row X
      go_wp2_with fail
      exact line_leaves rfl rfl rfl hXs B9 (LineR.no hno.out b9 hXs hX1) rfl
    match ns, hN with
    | [a0], _ =>
    have hyes : Hid (o = some (addR x (9, [a0]))) := Lib.hid (ho2.out.symm.trans (if_pos rfl))
    have hv : wc.ownsRow w1.heap.size 3 1 (.slice An 1 cn) 1 (ints [a0]) := hv
    obtain ⟨g, cap, hA9⟩ := own_two hv (by decide)
    injection hA9 with hA9 _ hc9
    subst hA9; subst hc9
    obtain ⟨-, hg0, cur, BG, -, -, -, -⟩ := OwnAt.parts hv
    have d0 : wc.cell? ⟨g, 0, none⟩ = some (.int .i64 a0) := own_cell hv rfl
    have hgl := BG.lt
    clear ho2 hv BG
    have KS : Hid (∀ w', Below wc.heap.size wc w' → w'.cell? ⟨W.heap.size, 9, none⟩ = some (.slice s.as_ x.secs.length s.cs) ∧ w'.cell? ⟨g, 0, none⟩ = some (.int .i64 a0)) := Lib.hid (fun w' bb => ⟨((BX2.below bb BX2.lt).cell 9).trans hc9, (bb.cell (p := ⟨g, 0, none⟩) hgl).trans d0⟩)
    have r2 := run_oneI a0
    have onex := one_int (n := a0)
    have oney : ∀ u ∈ ints x.secs, u.oneCell' = true := ints_cells
    have hlm := hlim.secs
    have g63 : x.secs.length + 1 ≤ maxLen := by unfold maxLen; omega
    have gby : (x.secs.length + 1) * 8 ≤ 140737488355328 := by omega
    go_upto_region 43 with fail
    refine wp_region_schU (fun w' => w'.cell? ⟨W.heap.size, 9, none⟩ = some (.slice s.as_ x.secs.length s.cs) ∧ w'.cell? ⟨g, 0, none⟩ = some (.int .i64 a0)) 8 6 [(1, 1), (2, 2), (4, 1), (5, 1), (6, 2)] (KS.out _ (bDr (bRefl wc))) ?_
    simp only [pickS, List.getElem?_cons_zero, List.getElem?_cons_succ]
    refine wpSchedU_t ?_
    refine wpSchedU_r ?_
    refine wpSchedU_t ?_
    refine wpSchedU_t ?_
    refine wpSchedU_r ?_
    have hD := bDr (bRefl wc)
    generalize wc.drew = wD at *
    refine anyU_fresh 0 3 7 8 [(8, 3), (9, 3), (10, 3)] 25 3 (.int .i64 0) 1 8 s.as_ x.secs.length s.cs W.heap.size (ints x.secs) [Value.int .i64 a0] (.int .i64 a0) Tryz.underlying25 int_info rfl (by omega) ((hk.out.rs.1).below (hb2.trans (hD.mono hb2.size))) (Nat.le_trans hb2.size hD.size) rfl r2 oney onex g63 gby (fun w' bb => KS.out _ (hD.trans (bb.mono hD.size))) (fun x0 x1 x2 v9 w5 hown9 hbl => ?_)
    obtain ⟨g9, c9, rfl⟩ := own_two hown9 (by omega)
    have hg9N : N0 ≤ g9 := by have h1 := (OwnAt.parts hown9).2.1; have h2 := hb2.size; have h3 := hD.size; omega
    simp only [Act.put, List.setIfInBounds_toArray, List.set_cons_zero, List.set_cons_succ]
    have hb5 := hD.trans (hbl.mono hD.size)
    have BX5 := BX2.below hb5 BX2.lt
    have BR5 := BR2.below hb5 BR2.lt
    have k4 := (BX5.cell 9).trans hc9
    have z4 := BX5.frozen 9
    clear KS r2 onex oney
    go_wp2_with fail
    refine NoPanic.normal ?_
    go_upto_region 48 with fail
    have hHD : W.heap.size < wD.heap.size := by have := hD.size; omega
    have hHD2 : W.heap.size + 1 < wD.heap.size := by have := hD.size; omega
    have own8 := own_far hown9 (p := ⟨W.heap.size, 9, none⟩) hHD (.slice (some ⟨g9, 0, none⟩) (x.secs.length + 1) c9)
    have BX8 := BX5.set_ 9 (.slice (some ⟨g9, 0, none⟩) (x.secs.length + 1) c9)
    have BR8 := BR5.far (p := ⟨W.heap.size, 9, none⟩) (by simp) (.slice (some ⟨g9, 0, none⟩) (x.secs.length + 1) c9)
    have hb8 := bSet (p := ⟨W.heap.size, 9, none⟩) (hb2.trans (hb5.mono hb2.size)) (Nat.le_refl _) (.slice (some ⟨g9, 0, none⟩) (x.secs.length + 1) c9)
    generalize w5.setCell ⟨W.heap.size, 9, none⟩ (.slice (some ⟨g9, 0, none⟩) (x.secs.length + 1) c9) = w8 at *
    rw [(hset9.out g9 c9 a0)] at BX8
    have hYs : (WS.cl { s with as_ := some ⟨g9, 0, none⟩, cs := c9 } (addR x (9, [a0]))).toArray.size = 43 := wsCl_size hsd
    have hY1 : ∀ v ∈ (WS.cl { s with as_ := some ⟨g9, 0, none⟩, cs := c9 } (addR x (9, [a0]))).toArray.toList, v.oneCell' = true := ws_cell
    have hyes2 : Hid (∀ Y w', Hid ((WS.cl { s with as_ := some ⟨g9, 0, none⟩, cs := c9 } (addR x (9, [a0]))).toArray = Y) → Below W.heap.size W w' → World.ownsRow w' wD.heap.size 3 1 (.slice (some ⟨g9, 0, none⟩) (x.secs.length + 1) c9) (x.secs.length + 1) (ints x.secs ++ [.int .i64 a0]) → LineR N0 o W (.returned (.tuple #[.agg Y, .bool true])) w') := Lib.hid (fun Y w' hY bb hw => by
      have h := (hk.out.below bb).more bb.size
      have rd9 := rd_ownN hw
      rw [← hY.out]
      exact LineR.yes hyes.out bb ⟨h.rl, h.rb, h.rg, h.rt, h.ro, h.lo, h.re, ⟨(by show Rd _ _ 1 _ (x.secs ++ [_]).length (ints (x.secs ++ [_])); rw [List.length_append]; unfold ints; rw [List.map_append]; exact rd9), Low.of hg9N⟩, h.rf⟩ hsd hsb)
    obtain ⟨Y, hY⟩ : ∃ Y, Hid ((WS.cl { s with as_ := some ⟨g9, 0, none⟩, cs := c9 } (addR x (9, [a0]))).toArray = Y) := ⟨_, Lib.hid rfl⟩
    rw [hY.out] at BX8 hYs hY1
    apply wp_region_lit
    refine wpList_loadG (by rfl) (by rfl) (by rfl) (load_blk BX8 Tryz.underlying35 rfl (by rw [hYs]; exact world_info)) ?_
    simp only [Act.put]
    refine wpList_storeG (by rfl) (by rfl) (by rfl) (by rfl) (store_whole BR8 (by rw [hYs]; exact world_info) (by rw [hZs, hYs]) hY1) ?_
    simp only [Act.put]
    have b9 := below_setRowP hb8 (Nat.le_succ W.heap.size) Y
    have B9 := BR8.row Y
    have ownF := own_farRow own8 hHD2 Y
    go_wp2_with fail
    exact line_leaves rfl rfl rfl hYs B9 (hyes2.out Y _ hY b9 ownF) rfl
end Go.Proofs.YtmbopkcmbiommaaGreatDoor
