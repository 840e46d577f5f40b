/-
  elgamal.changed: one function over the three ciphers.
-/
import Derived.Test.YtoeobcmmafncmaaDoorMat
import Derived.Test.YtoeobcmmafncmaaDoorMaq
namespace Go.Proofs.YtoeobcmmafncmaaDoor
open Go.RowKit
attribute [local go_sem] Oper.semAt_some

def Ltr.agg (x : Ltr) : Value := .agg #[.int .i64 x.a0, .int .i64 x.b0, .int .i64 x.a1, .int .i64 x.b1, .int .i64 x.a2, .int .i64 x.b2]
def zeroL : Ltr := ⟨0, 0, 0, 0, 0, 0⟩
theorem Blk.six {w : World} {b : Nat} {t : TypeId} {v0 v1 v2 v3 v4 v5 : Value} (h : Blk w b t #[v0, v1, v2, v3, v4, v5]) :
    w.cell? ⟨b, 0, none⟩ = some v0 ∧ w.cell? ⟨b, 1, none⟩ = some v1 ∧ w.cell? ⟨b, 2, none⟩ = some v2 ∧ w.cell? ⟨b, 3, none⟩ = some v3 ∧ w.cell? ⟨b, 4, none⟩ = some v4 ∧ w.cell? ⟨b, 5, none⟩ = some v5 :=
  ⟨h.cell 0, h.cell 1, h.cell 2, h.cell 3, h.cell 4, h.cell 5⟩
theorem Blk.six_free {w : World} {b : Nat} {t : TypeId} {cs : Array Value} (h : Blk w b t cs) :
    w.frozen? ⟨b, 0, none⟩ = false ∧ w.frozen? ⟨b, 1, none⟩ = false ∧ w.frozen? ⟨b, 2, none⟩ = false ∧ w.frozen? ⟨b, 3, none⟩ = false ∧ w.frozen? ⟨b, 4, none⟩ = false ∧ w.frozen? ⟨b, 5, none⟩ = false :=
  ⟨h.frozen 0, h.frozen 1, h.frozen 2, h.frozen 3, h.frozen 4, h.frozen 5⟩
/-- Six cells, stored one after the other. -/
def set6 (w : World) (b : Nat) (v0 v1 v2 v3 v4 v5 : Value) : World :=
  (((((w.setCell ⟨b, 0, none⟩ v0).setCell ⟨b, 1, none⟩ v1).setCell ⟨b, 2, none⟩ v2).setCell ⟨b, 3, none⟩ v3).setCell ⟨b, 4, none⟩ v4).setCell ⟨b, 5, none⟩ v5
theorem Blk.set6 {w : World} {b : Nat} {t : TypeId} {u0 u1 u2 u3 u4 u5 : Value} (h : Blk w b t #[u0, u1, u2, u3, u4, u5]) (v0 v1 v2 v3 v4 v5 : Value) : Blk (Proofs.YtoeobcmmafncmaaDoor.set6 w b v0 v1 v2 v3 v4 v5) b t #[v0, v1, v2, v3, v4, v5] := by
  have := (((((h.set_ 0 v0).set_ 1 v1).set_ 2 v2).set_ 3 v3).set_ 4 v4).set_ 5 v5
  unfold Proofs.YtoeobcmmafncmaaDoor.set6
  simpa using this
theorem bSet6 {a w : World} (h : Below a.heap.size a w) {b : Nat} (hb : a.heap.size ≤ b) (v0 v1 v2 v3 v4 v5 : Value) : Below a.heap.size a (set6 w b v0 v1 v2 v3 v4 v5) :=
  bSet (bSet (bSet (bSet (bSet (bSet h (p := ⟨b, 0, none⟩) hb _) (p := ⟨b, 1, none⟩) hb _) (p := ⟨b, 2, none⟩) hb _) (p := ⟨b, 3, none⟩) hb _) (p := ⟨b, 4, none⟩) hb _) (p := ⟨b, 5, none⟩) hb _
theorem heap_set6 {w : World} {b D : Nat} (hne : b ≠ D) (v0 v1 v2 v3 v4 v5 : Value) : (set6 w b v0 v1 v2 v3 v4 v5).heap[D]? = w.heap[D]? := by
  unfold set6
  iterate 6 rw [Below.heap_setCell _ _ _ _ (fun e => hne e.symm)]
theorem ne_mark {w : World} {b D : Nat} {t : TypeId} {cs : Array Value} (h : Blk w b t cs) {o : Obj} (hd : w.heap[D]? = some o) (ho : o.isCells = false) : b ≠ D := by
  intro e; subst e; unfold Blk at h; rw [h] at hd; cases hd; cases ho

/-- What a function does to the k-th cipher. -/
def ChgAt (fid : Nat) (caps : Array Value) (base : World) (G : Ltr → Prop) (upd : Ltr → Fin 3 → Ltr) : Prop :=
  ∀ (k : Fin 3) (y : Ltr) (s : Nat) (Wc : World), Below base.heap.size base Wc → base.heap.size ≤ s → G y → Blk Wc s 54 y.cells →
    Calls Tryd.prog fid (#[.int .i64 (k.val : Nat), .pointer (some ⟨s, 2 * k.val, none⟩)] ++ caps) Wc (fun e w' => e = .returned (.tuple #[]) ∧ Wc.grownBy w' (some s) ∧ Blk w' s 54 (upd y k).cells)

set_option maxRecDepth 100000 in
set_option maxHeartbeats 4000000 in
theorem el_changed (upd : Ltr → Fin 3 → Ltr) (G : Ltr → Prop) (hG : ∀ y k, G y → G (upd y k)) (x : Ltr) (hx : G x) (fid : Nat) (hfid : fid = 50 ∨ fid = 50) (caps : Array Value) (nb : Nat) (W : World)
    (hB : Blk W nb 83 #[.func (.func fid) #[] caps]) (hf : ChgAt fid caps W G upd) :
    Calls Tryd.prog 27 #[x.agg, .slice (some ⟨nb, 0, none⟩) 1 1] W (Ret (upd (upd (upd x 0) 1) 2).agg W) := by
  refine calls_of_wp_dm Tryd.func27 rfl ?_
  unfold Ltr.agg
  simp only [Tryd.ntmps27, List.size_toArray, List.length_cons, List.length_nil, Nat.reduceAdd, Nat.reduceSub, Array.replicate_succ, Array.replicate_zero, List.push_toArray, List.append_toArray, List.nil_append, List.cons_append]
  go_wp2_with fail
  refine (ciphers_any _ _).mono ?_
  rintro e w' ⟨rfl, rfl⟩
  go_wp2_with fail
  have BL : Blk ((((W.alloc (.cells x.cells 54)).alloc (.cells #[.slice (some ⟨nb, 0, none⟩) 1 1] 122)).alloc (.cells zeroL.cells 54)).alloc (.cells #[.pointer (some ⟨W.heap.size, 0, none⟩)] 117)) W.heap.size 54 x.cells := (((Blk.new W _ _ _ rfl).alloc _).alloc _).alloc _
  have BS : Blk ((((W.alloc (.cells x.cells 54)).alloc (.cells #[.slice (some ⟨nb, 0, none⟩) 1 1] 122)).alloc (.cells zeroL.cells 54)).alloc (.cells #[.pointer (some ⟨W.heap.size, 0, none⟩)] 117)) (W.heap.size + 1) 122 #[.slice (some ⟨nb, 0, none⟩) 1 1] := ((Blk.new _ _ _ _ (by simp)).alloc _).alloc _
  have BR : Blk ((((W.alloc (.cells x.cells 54)).alloc (.cells #[.slice (some ⟨nb, 0, none⟩) 1 1] 122)).alloc (.cells zeroL.cells 54)).alloc (.cells #[.pointer (some ⟨W.heap.size, 0, none⟩)] 117)) (W.heap.size + 1 + 1) 54 zeroL.cells := (Blk.new _ _ _ _ (by simp)).alloc _
  have BP : Blk ((((W.alloc (.cells x.cells 54)).alloc (.cells #[.slice (some ⟨nb, 0, none⟩) 1 1] 122)).alloc (.cells zeroL.cells 54)).alloc (.cells #[.pointer (some ⟨W.heap.size, 0, none⟩)] 117)) (W.heap.size + 1 + 1 + 1) 117 #[.pointer (some ⟨W.heap.size, 0, none⟩)] := Blk.new _ _ _ _ (by simp)
  have BN : Blk ((((W.alloc (.cells x.cells 54)).alloc (.cells #[.slice (some ⟨nb, 0, none⟩) 1 1] 122)).alloc (.cells zeroL.cells 54)).alloc (.cells #[.pointer (some ⟨W.heap.size, 0, none⟩)] 117)) nb 83 #[.func (.func fid) #[] caps] := (((hB.alloc _).alloc _).alloc _).alloc _
  have hb : Below W.heap.size W ((((W.alloc (.cells x.cells 54)).alloc (.cells #[.slice (some ⟨nb, 0, none⟩) 1 1] 122)).alloc (.cells zeroL.cells 54)).alloc (.cells #[.pointer (some ⟨W.heap.size, 0, none⟩)] 117)) := bAl (bAl (bAl (bAl (bRefl W) _) _) _) _
  change Code.wp _ _ _ _ ((((W.alloc (.cells x.cells 54)).alloc (.cells #[.slice (some ⟨nb, 0, none⟩) 1 1] 122)).alloc (.cells zeroL.cells 54)).alloc (.cells #[.pointer (some ⟨W.heap.size, 0, none⟩)] 117))
  generalize ((((W.alloc (.cells x.cells 54)).alloc (.cells #[.slice (some ⟨nb, 0, none⟩) 1 1] 122)).alloc (.cells zeroL.cells 54)).alloc (.cells #[.pointer (some ⟨W.heap.size, 0, none⟩)] 117)) = w3 at *
  have hnb := hB.lt
  have hz3 := BP.lt
  clear hB
  refine wp_rangeB 2 (gf := 74) (lb := #[.pointer (some ⟨W.heap.size + 1 + 1 + 1, 0, none⟩)]) rfl (enters_of Tryd.func74 (by kernel_rfl) rfl)
    (fun k => k = W.heap.size + 1 + 1 + 1) (ciphers_stops (W.heap.size + 1 + 1 + 1) W.heap.size (fun k => k = W.heap.size + 1 + 1 + 1) rfl w3 BP) (fun k hk => by omega) (fun _ => rfl) W hb
    (fun pre => [(W.heap.size, 54, (pre.foldl upd x).cells), (W.heap.size + 1, 122, #[.slice (some ⟨nb, 0, none⟩) 1 1]), (W.heap.size + 1 + 1, 54, zeroL.cells), (nb, 83, #[.func (.func fid) #[] caps]), (W.heap.size + 1 + 1 + 1, 117, #[.pointer (some ⟨W.heap.size, 0, none⟩)])])
    (fun pre => G (pre.foldl upd x)) (fun _ _ => []) (fun _ _ => False) ⟨BL, BS, BR, BN, BP, trivial⟩ hx ?round ?done ?stop
  case stop => exact fun _ _ _ _ _ _ _ _ h => h.elim
  case round =>
    rintro l pre k W0 hlen
    clear BL BS BR BP BN hb
    dsimp only [cphE]
    gi_wp2
    refine ⟨trivial, fun L Wc hbc hBl hGp => ?_⟩
    obtain ⟨c1, c2, c3, c4, c5, _⟩ := hBl
    dsimp only at c1 c2 c3 c4 c5
    have c1' := c1
    have d1 : Wc.cell? ⟨W.heap.size + 1, 0, none⟩ = some (.slice (some ⟨nb, 0, none⟩) 1 1) := c2.cell 0
    have d2 : Wc.cell? ⟨nb, 0, none⟩ = some (.func (.func fid) #[] caps) := c4.cell 0
    gi_wp2
    gi_loopw [14] (fun i wr => ∃ (m : Int), i = .int .i64 m ∧ (m = 0 ∧ wr = Wc ∨ m = 1 ∧ Wc.grownBy wr (some W.heap.size) ∧ Blk wr W.heap.size 54 (upd (pre.foldl upd x) k).cells)) (fun i _ => 1 - (intOf i).toNat)
    case atStart => exact ⟨0, rfl, .inl ⟨rfl, rfl⟩⟩
    case round =>
      obtain ⟨m, rfl, (⟨rfl, rfl⟩ | ⟨rfl, hgr, hbk⟩)⟩ := hrel
      · have q := hf k (pre.foldl upd x) W.heap.size _ hbc (Nat.le_refl _) hGp c1
        generalize hy : upd (List.foldl upd x pre) k = y at *
        generalize List.foldl upd x pre = y0 at *
        clear hy
        rcases hfid with rfl | rfl
        all_goals
          gi_wp2_with fail
          refine ⟨trivial, ?_⟩
          (with_reducible refine (inR L q).mono ?_)
          rintro e w' ⟨rfl, hg, hbk⟩
          clear q
          gi_wp2_with fail
          exact ⟨⟨1, rfl, .inr ⟨rfl, hg, hbk⟩⟩, by simp [intOf]⟩
      · clear c1 d1 d2
        gi_wp2
        have hfold : (pre ++ [k]).foldl upd x = upd (pre.foldl upd x) k := by simp
        have hc5 := c5.lt
        refine ⟨KeepsOthers.grown hgr c1', Keeps.grown hgr (fun j hj => ⟨by omega, by omega⟩), bGrownS hbc hgr (Nat.le_refl _), ⟨?_, c2.grown hgr (by show W.heap.size + 1 ≠ W.heap.size; omega), c3.grown hgr (by show W.heap.size + 1 + 1 ≠ W.heap.size; omega), c4.grown hgr (by show nb ≠ W.heap.size; omega), c5.grown hgr (by show W.heap.size + 1 + 1 + 1 ≠ W.heap.size; omega), trivial⟩, ?_⟩
        · show Blk _ _ _ ((pre ++ [k]).foldl upd x).cells
          rw [hfold]; exact hbk
        · show G ((pre ++ [k]).foldl upd x)
          rw [hfold]; exact hG _ _ hGp
  case done =>
    rintro D xs Wc hD rfl hbc ⟨c1, c2, c3, c4, c5, _⟩ hGp hd
    change Blk Wc W.heap.size _ (upd (upd (upd x 0) 1) 2).cells at c1
    dsimp only at c3
    clear hGp BL BS BR BP BN hb c2 c4 c5 hf hG hx
    generalize upd (upd (upd x 0) 1) 2 = y at *
    obtain ⟨k0, k1, k2, k3, k4, k5⟩ := Blk.six (v0 := .int .i64 y.a0) (v1 := .int .i64 y.b0) (v2 := .int .i64 y.a1) (v3 := .int .i64 y.b1) (v4 := .int .i64 y.a2) (v5 := .int .i64 y.b2) c1
    obtain ⟨m0, m1, m2, m3, m4, m5⟩ := Blk.six (v0 := .int .i64 0) (v1 := .int .i64 0) (v2 := .int .i64 0) (v3 := .int .i64 0) (v4 := .int .i64 0) (v5 := .int .i64 0) c3
    obtain ⟨z0, z1, z2, z3, z4, z5⟩ := c3.six_free
    have c6 := Blk.set6 (u0 := .int .i64 0) (u1 := .int .i64 0) (u2 := .int .i64 0) (u3 := .int .i64 0) (u4 := .int .i64 0) (u5 := .int .i64 0) c3 (.int .i64 y.a0) (.int .i64 y.b0) (.int .i64 y.a1) (.int .i64 y.b1) (.int .i64 y.a2) (.int .i64 y.b2)
    have hb6 := bSet6 (b := W.heap.size + 1 + 1) hbc (by omega) (.int .i64 y.a0) (.int .i64 y.b0) (.int .i64 y.a1) (.int .i64 y.b1) (.int .i64 y.a2) (.int .i64 y.b2)
    have hd6 := (heap_set6 (ne_mark c3 hd rfl) (.int .i64 y.a0) (.int .i64 y.b0) (.int .i64 y.a1) (.int .i64 y.b1) (.int .i64 y.a2) (.int .i64 y.b2)).trans hd
    have c7 := c6.put (o' := .deferred none) hd6 rfl
    go_wp2_with fail
    change LeavesM _ _ _ _ _ _ (set6 Wc (W.heap.size + 1 + 1) (.int .i64 y.a0) (.int .i64 y.b0) (.int .i64 y.a1) (.int .i64 y.b1) (.int .i64 y.a2) (.int .i64 y.b2))
    refine leavesM_mark (by simp) hd6 ?_
    obtain ⟨e0, e1, e2, e3, e4, e5⟩ := c7.six
    exact ⟨.agg #[.int .i64 y.a0, .int .i64 y.b0, .int .i64 y.a1, .int .i64 y.b1, .int .i64 y.a2, .int .i64 y.b2], by simp [results, Tryd.results27, go_sem, e0, e1, e2, e3, e4, e5], rfl, bPut hb6 hD _⟩
end Go.Proofs.YtoeobcmmafncmaaDoor

/-
  elgamal: what changes all ciphers of a letter: Strip's and more's closures as ChgAt; Strip.
-/
namespace Go.Proofs.YtoeobcmmafncmaaDoor
open Go.RowKit

def Ltr.inP (x : Ltr) : Prop := (Proofs.YtoeobcmmafncmaaDoor.inP x.a0 ∧ Proofs.YtoeobcmmafncmaaDoor.inP x.b0) ∧ (Proofs.YtoeobcmmafncmaaDoor.inP x.a1 ∧ Proofs.YtoeobcmmafncmaaDoor.inP x.b1) ∧ Proofs.YtoeobcmmafncmaaDoor.inP x.a2 ∧ Proofs.YtoeobcmmafncmaaDoor.inP x.b2
def stripU (n : Int) (y : Ltr) (k : Fin 3) : Ltr := match k with
  | 0 => { y with b0 := timesL [y.b0, powV y.a0 (-n)] }
  | 1 => { y with b1 := timesL [y.b1, powV y.a1 (-n)] }
  | 2 => { y with b2 := timesL [y.b2, powV y.a2 (-n)] }
def moreU (key r0 r1 r2 : Int) (y : Ltr) (k : Fin 3) : Ltr := match k with
  | 0 => { y with a0 := timesL [y.a0, powV 4 r0], b0 := timesL [y.b0, powV key r0] }
  | 1 => { y with a1 := timesL [y.a1, powV 4 r1], b1 := timesL [y.b1, powV key r1] }
  | 2 => { y with a2 := timesL [y.a2, powV 4 r2], b2 := timesL [y.b2, powV key r2] }
theorem stripU_inP (n : Int) (y : Ltr) (k : Fin 3) (h : y.inP) : (stripU n y k).inP := by
  obtain ⟨⟨h1, h2⟩, ⟨h3, h4⟩, h5, h6⟩ := h
  match k with
  | 0 => exact ⟨⟨h1, timesL_inP _⟩, ⟨h3, h4⟩, h5, h6⟩
  | 1 => exact ⟨⟨h1, h2⟩, ⟨h3, timesL_inP _⟩, h5, h6⟩
  | 2 => exact ⟨⟨h1, h2⟩, ⟨h3, h4⟩, h5, timesL_inP _⟩
theorem moreU_inP (key r0 r1 r2 : Int) (y : Ltr) (k : Fin 3) (h : y.inP) : (moreU key r0 r1 r2 y k).inP := by
  obtain ⟨⟨h1, h2⟩, ⟨h3, h4⟩, h5, h6⟩ := h
  match k with
  | 0 => exact ⟨⟨timesL_inP _, timesL_inP _⟩, ⟨h3, h4⟩, h5, h6⟩
  | 1 => exact ⟨⟨h1, h2⟩, ⟨timesL_inP _, timesL_inP _⟩, h5, h6⟩
  | 2 => exact ⟨⟨h1, h2⟩, ⟨h3, h4⟩, timesL_inP _, timesL_inP _⟩
theorem good_inP {x : Ltr} (h : x.good = true) : x.inP := by
  unfold Ltr.good at h
  simp only [Bool.and_eq_true] at h
  obtain ⟨⟨⟨h1, h2⟩, h3, h4⟩, h5, h6⟩ := h
  have k : ∀ {a : Int}, validB a = true → Proofs.YtoeobcmmafncmaaDoor.inP a := fun h => by obtain ⟨h1, h2⟩ := validB_rng h; exact ⟨by omega, h2⟩
  exact ⟨⟨k h1, k h2⟩, ⟨k h3, k h4⟩, k h5, k h6⟩

theorem more_chg (key r0 r1 r2 : Int) (kb rb : Nat) (W : World) (hK : Blk W kb 3 #[.int .i64 key]) (hR : Blk W rb 49 #[.int .i64 r0, .int .i64 r1, .int .i64 r2]) :
    ChgAt 50 #[.pointer (some ⟨rb, 0, none⟩), .pointer (some ⟨kb, 0, none⟩)] W Ltr.inP (moreU key r0 r1 r2) := by
  intro k y s Wc hb hs hG c
  obtain ⟨⟨h1, h2⟩, ⟨h3, h4⟩, h5, h6⟩ := hG
  have hKc := hK.below hb hK.lt
  have hRc := hR.below hb hR.lt
  match k with
  | 0 => exact (more1 Wc 0 0 kb rb s 0 key r0 y.a0 y.b0 (.inl ⟨rfl, rfl⟩) h1 h2 (hKc.cell 0) (hRc.cell 0) (c.cell 0) (c.cell 1) (c.frozen 0) (c.frozen 1) hKc.lt hRc.lt c.lt).mono fun e w' ⟨he, w1, b, hw⟩ => ⟨he, by rw [hw]; exact grownBy_set (grownBy_below_set b _ _ _) _ _, by rw [hw]; exact ((c.below b c.lt).set_ 0 _).set_ 1 _⟩
  | 1 => exact (more1 Wc 1 1 kb rb s 2 key r1 y.a1 y.b1 (.inr (.inl ⟨rfl, rfl⟩)) h3 h4 (hKc.cell 0) (hRc.cell 1) (c.cell 2) (c.cell 3) (c.frozen 2) (c.frozen 3) hKc.lt hRc.lt c.lt).mono fun e w' ⟨he, w1, b, hw⟩ => ⟨he, by rw [hw]; exact grownBy_set (grownBy_below_set b _ _ _) _ _, by rw [hw]; exact ((c.below b c.lt).set_ 2 _).set_ 3 _⟩
  | 2 => exact (more1 Wc 2 2 kb rb s 4 key r2 y.a2 y.b2 (.inr (.inr ⟨rfl, rfl⟩)) h5 h6 (hKc.cell 0) (hRc.cell 2) (c.cell 4) (c.cell 5) (c.frozen 4) (c.frozen 5) hKc.lt hRc.lt c.lt).mono fun e w' ⟨he, w1, b, hw⟩ => ⟨he, by rw [hw]; exact grownBy_set (grownBy_below_set b _ _ _) _ _, by rw [hw]; exact ((c.below b c.lt).set_ 4 _).set_ 5 _⟩

theorem more_any (key r0 r1 r2 : Int) (w : World) :
    Calls Tryd.prog 28 #[.int .i64 key, .agg #[.int .i64 r0, .int .i64 r1, .int .i64 r2]] w fun r w' =>
      r = .returned (.func (.func 50) #[] #[.pointer (some ⟨w.heap.size + 1, 0, none⟩), .pointer (some ⟨w.heap.size, 0, none⟩)]) ∧ w' = (w.alloc (.cells #[.int .i64 key] 3)).alloc (.cells #[.int .i64 r0, .int .i64 r1, .int .i64 r2] 49) := by
  have hmf : ∀ (fn : Fn) (first cap : Array Value) (w : World), (Instr.makeFunc fn first cap).run Tryd.prog w = .ok (.func fn first cap) w := fun _ _ _ _ => rfl
  go_enter Tryd.func28, Tryd.ntmps28
  go_wp2
  go_ret
  exact ⟨rfl, rfl⟩

/-- What Strip gives. -/
def stripL (n : Int) (x : Ltr) : Ltr := stripU n (stripU n (stripU n x 0) 1) 2
def stripV (n : Int) (x : Ltr) : Ltr := if secB n = true then (if x.good = true then stripL n x else zeroL) else zeroL
def stripE (n : Int) (x : Ltr) : Int := if secB n = true then (if x.good = true then 0 else 100) else 110
theorem secB_rng {n : Int} (h : secB n = true) : 1 ≤ n ∧ n < 1073741789 := of_decide_eq_true h

theorem ret_li {x y : Ltr} {a b : Int} (h : x = y) (h' : a = b) : Ending.returned (.tuple #[y.agg, .int .i64 b]) = .returned (.tuple #[x.agg, .int .i64 a]) := by rw [h, h']
end Go.Proofs.YtoeobcmmafncmaaDoor
