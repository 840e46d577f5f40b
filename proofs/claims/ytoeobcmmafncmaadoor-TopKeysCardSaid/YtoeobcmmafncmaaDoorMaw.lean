/-
  elgamal: Read.
-/
import Derived.Test.YtoeobcmmafncmaaDoorMav
import Derived.Test.YtoeobcmmafncmaaDoorMao
import Derived.Deep.RegionHeld3
namespace Go.Proofs.YtoeobcmmafncmaaDoor
open Go.RowKit
attribute [local go_sem] Oper.semAt_some

/-- Words. -/
structure Wd where
  x : Int
  y : Int
  z : Int
def Wd.cells (w : Wd) : Array Value := #[.int .i64 w.x, .int .i64 w.y, .int .i64 w.z]
def Wd.agg (w : Wd) : Value := .agg #[.int .i64 w.x, .int .i64 w.y, .int .i64 w.z]
def readU (x : Ltr) (w : Wd) (k : Fin 3) : Wd := match k with
  | 0 => { w with x := numV x.b0 }
  | 1 => { w with y := numV x.b1 }
  | 2 => { w with z := numV x.b2 }
def readV (x : Ltr) : Wd := if x.good = true then ⟨numV x.b0, numV x.b1, numV x.b2⟩ else ⟨0, 0, 0⟩
theorem Ltr.cell_b (x : Ltr) (k : Fin 3) : ∃ b, x.cells[2 * k.val + 1]? = some (.int .i64 b) ∧ ∀ w, (readU x w k).cells = w.cells.setIfInBounds k.val (.int .i64 (numV b)) := by
  match k with
  | 0 => exact ⟨_, rfl, fun _ => rfl⟩
  | 1 => exact ⟨_, rfl, fun _ => rfl⟩
  | 2 => exact ⟨_, rfl, fun _ => rfl⟩
theorem ret_wi {x y : Wd} {a b : Int} (h : x = y) (h' : a = b) : Ending.returned (.tuple #[y.agg, .int .i64 b]) = .returned (.tuple #[x.agg, .int .i64 a]) := by rw [h, h']
theorem heap_set3 {w : World} {b D : Nat} (hne : b ≠ D) (v0 v1 v2 : Value) : (((w.setCell ⟨b, 0, none⟩ v0).setCell ⟨b, 1, none⟩ v1).setCell ⟨b, 2, none⟩ v2).heap[D]? = w.heap[D]? := by
  iterate 3 rw [Below.heap_setCell _ _ _ _ (fun e => hne e.symm)]

set_option maxRecDepth 100000 in
set_option maxHeartbeats 4000000 in
theorem el_read (x : Ltr) (W : World) :
    Calls Tryd.prog 18 #[x.agg] W (Ret (.tuple #[(readV x).agg, .int .i64 x.err]) W) := by
  refine calls_of_wp_dm Tryd.func18 rfl ?_
  obtain ⟨v, hv⟩ : ∃ v, v = readV x := ⟨_, rfl⟩
  obtain ⟨er, her⟩ : ∃ v, v = x.err := ⟨_, rfl⟩
  rw [← hv, ← her]
  obtain ⟨W3, hW3⟩ : ∃ W3, W3 = (W.alloc (.cells #[.int .i64 x.a0, .int .i64 x.b0, .int .i64 x.a1, .int .i64 x.b1, .int .i64 x.a2, .int .i64 x.b2] 54)).alloc (.cells #[.int .i64 0, .int .i64 0, .int .i64 0] 50) := ⟨_, rfl⟩
  have h3 : Below W.heap.size W W3 := by rw [hW3]; exact bAl (bAl (bRefl W) _) _
  have B3 : Blk W3 W.heap.size 54 #[.int .i64 x.a0, .int .i64 x.b0, .int .i64 x.a1, .int .i64 x.b1, .int .i64 x.a2, .int .i64 x.b2] := by rw [hW3]; exact (Blk.new _ _ _ _ rfl).alloc _
  have B2 : Blk W3 (W.heap.size + 1) 50 #[.int .i64 0, .int .i64 0, .int .i64 0] := by rw [hW3]; exact Blk.new _ _ _ _ (by simp)
  have q2 := el_check x W3
  unfold Ltr.agg
  simp only [Tryd.ntmps18, List.size_toArray, List.length_cons, List.length_nil, Nat.reduceAdd, Nat.reduceSub, Array.replicate_succ, Array.replicate_zero, List.push_toArray, List.append_toArray, List.nil_append, List.cons_append]
  cases hg : x.good
  · have Hv : Hid (v = ⟨0, 0, 0⟩) := by show _ = _; rw [hv]; exact if_neg (by simp [hg])
    have hx : x.err = 100 := by unfold Ltr.err; rw [hg]; rfl
    have He : Hid (er = 100) := by show _ = _; rw [her]; exact hx
    rw [hx] at q2
    clear hv her hg hx
    go_upto_region 1 with fail
    rw [← hW3]
    clear hW3
    obtain ⟨k0, k1, k2, k3, k4, k5⟩ := B3.six
    go_wp2_with fail
    (with_reducible refine q2.mono ?_)
    rintro e w4 ⟨rfl, b4⟩
    clear q2
    have h4 := bCall h3 b4
    have C4 := B2.below b4 B2.lt
    clear k0 k1 k2 k3 k4 k5
    obtain ⟨m0, m1, m2⟩ := three C4
    have z0 := C4.frozen 0
    have z1 := C4.frozen 1
    have z2 := C4.frozen 2
    have C5 := ((C4.set_ 0 (.int .i64 0)).set_ 1 (.int .i64 0)).set_ 2 (.int .i64 0)
    have h5 := bSet (bSet (bSet h4 (p := ⟨W.heap.size + 1, 0, none⟩) (by show W.heap.size ≤ W.heap.size + 1; omega) (.int .i64 0)) (p := ⟨W.heap.size + 1, 1, none⟩) (by show W.heap.size ≤ W.heap.size + 1; omega) (.int .i64 0)) (p := ⟨W.heap.size + 1, 2, none⟩) (by show W.heap.size ≤ W.heap.size + 1; omega) (.int .i64 0)
    go_wp2_with fail
    obtain ⟨e0, e1, e2⟩ := three (v0 := .int .i64 0) (v1 := .int .i64 0) (v2 := .int .i64 0) C5
    exact ⟨.tuple #[.agg #[.int .i64 0, .int .i64 0, .int .i64 0], .int .i64 100], by simp [results, Tryd.results18, go_sem, e0, e1, e2], ret_wi Hv.out He.out, h5⟩
  · have Hv : Hid (v = ⟨numV x.b0, numV x.b1, numV x.b2⟩) := by show _ = _; rw [hv]; exact if_pos hg
    have hx : x.err = 0 := by unfold Ltr.err; rw [hg]; rfl
    have He : Hid (er = 0) := by show _ = _; rw [her]; exact hx
    rw [hx] at q2
    clear hv her hg hx
    go_upto_region 1 with fail
    rw [← hW3]
    clear hW3
    obtain ⟨k0, k1, k2, k3, k4, k5⟩ := B3.six
    go_wp2_with fail
    (with_reducible refine q2.mono ?_)
    rintro e w4 ⟨rfl, b4⟩
    clear q2
    have h4 := bCall h3 b4
    have C3 := B3.below b4 B3.lt
    have C4 := B2.below b4 B2.lt
    clear k0 k1 k2 k3 k4 k5 B3 B2
    go_wp2_with fail
    refine (ciphers_any _ _).mono ?_
    rintro e w' ⟨rfl, rfl⟩
    go_wp2_with fail
    obtain ⟨bp, hbp⟩ : ∃ bp, bp = w4.heap.size := ⟨_, rfl⟩
    have BP := Blk.new w4 117 #[.pointer (some ⟨W.heap.size, 0, none⟩)] bp hbp
    have D3 := C3.alloc (.cells #[.pointer (some ⟨W.heap.size, 0, none⟩)] 117)
    have D4 := C4.alloc (.cells #[.pointer (some ⟨W.heap.size, 0, none⟩)] 117)
    have h5 := bAl h4 (.cells #[.pointer (some ⟨W.heap.size, 0, none⟩)] 117)
    have hlt : W.heap.size + 1 < bp := by rw [hbp]; exact C4.lt
    rw [← hbp]
    clear C3 C4 h4 b4 h3 hbp
    generalize w4.alloc (.cells #[.pointer (some ⟨W.heap.size, 0, none⟩)] 117) = w5 at *
    refine wp_rangeB 2 (gf := 74) (lb := #[.pointer (some ⟨bp, 0, none⟩)]) rfl (enters_of Tryd.func74 (by kernel_rfl) rfl)
      (fun k => k = bp) (ciphers_stops bp W.heap.size (fun k => k = bp) rfl w5 BP) (fun k hk => by have := BP.lt; omega) (fun _ => rfl) W h5
      (fun pre => [(W.heap.size, 54, x.cells), (W.heap.size + 1, 50, (pre.foldl (readU x) ⟨0, 0, 0⟩).cells), (bp, 117, #[.pointer (some ⟨W.heap.size, 0, none⟩)])])
      (fun pre => True) (fun _ _ => []) (fun _ _ => False) ⟨D3, D4, BP, trivial⟩ trivial ?round ?done ?stop
    case stop => exact fun _ _ _ _ _ _ _ _ h => h.elim
    case round =>
      rintro l pre k W0 hlen
      clear D3 D4 BP h5
      dsimp only [cphE]
      gi_wp2
      refine ⟨trivial, fun L Wc hbc hBl _ => ?_⟩
      obtain ⟨c1, c2, c3, _⟩ := hBl
      dsimp only at c1 c2 c3
      obtain ⟨b, hb1, hb2⟩ := x.cell_b k
      have d1 : Wc.cell? ⟨W.heap.size, 2 * k.val + 1, none⟩ = some (.int .i64 b) := (c1.cell _).trans hb1
      have q := group_number b Wc
      have hkv := k.isLt
      have hkv2 : (k.val : Int) < 3 := by omega
      have d2 := c2.frozen k.val
      obtain ⟨u, hu⟩ : ∃ u, (pre.foldl (readU x) ⟨0, 0, 0⟩).cells[k.val]? = some u := ⟨_, Array.getElem?_eq_getElem (by show k.val < 3; omega)⟩
      have d3 : Wc.cell? ⟨W.heap.size + 1, k.val, none⟩ = some u := (c2.cell _).trans hu
      have Hb2 : Hid (((pre ++ [k]).foldl (readU x) ⟨0, 0, 0⟩).cells = (pre.foldl (readU x) ⟨0, 0, 0⟩).cells.setIfInBounds k.val (.int .i64 (numV b))) := by
        show _ = _
        rw [List.foldl_append]; exact hb2 _
      clear hb1 hb2 hu
      gi_wp2_with fail
      refine ⟨trivial, ?_⟩
      (with_reducible refine (inR L q).mono ?_)
      rintro e w' ⟨rfl, rfl⟩
      clear q
      have hc3 := c3.lt
      gi_wp2_with fail
      refine ⟨KeepsOthers.setCell _ _ _, (Keeps.refl _ _).setCell (by show ¬ W.heap.size + 1 = bp; omega) _, bSet hbc (by show W.heap.size ≤ W.heap.size + 1; omega) _, ⟨c1.far (by show W.heap.size ≠ W.heap.size + 1; omega) _, ?_, c3.far (by show bp ≠ W.heap.size + 1; omega) _, trivial⟩, trivial⟩
      show Blk _ _ _ ((pre ++ [k]).foldl (readU x) ⟨0, 0, 0⟩).cells
      rw [Hb2.out]
      exact c2.set_ k.val _
    case done =>
      rintro D xs Wc hD rfl hbc ⟨c1, c2, _⟩ _ hd
      change Blk Wc (W.heap.size + 1) _ #[.int .i64 (numV x.b0), .int .i64 (numV x.b1), .int .i64 (numV x.b2)] at c2
      clear c1 D3 D4 BP h5
      obtain ⟨m0, m1, m2⟩ := three c2
      have z0 := c2.frozen 0
      have z1 := c2.frozen 1
      have z2 := c2.frozen 2
      have c6 := ((c2.set_ 0 (.int .i64 (numV x.b0))).set_ 1 (.int .i64 (numV x.b1))).set_ 2 (.int .i64 (numV x.b2))
      have hb6 := bSet (bSet (bSet hbc (p := ⟨W.heap.size + 1, 0, none⟩) (by show W.heap.size ≤ W.heap.size + 1; omega) (.int .i64 (numV x.b0))) (p := ⟨W.heap.size + 1, 1, none⟩) (by show W.heap.size ≤ W.heap.size + 1; omega) (.int .i64 (numV x.b1))) (p := ⟨W.heap.size + 1, 2, none⟩) (by show W.heap.size ≤ W.heap.size + 1; omega) (.int .i64 (numV x.b2))
      have hd6 := (heap_set3 (ne_mark c2 hd rfl) (.int .i64 (numV x.b0)) (.int .i64 (numV x.b1)) (.int .i64 (numV x.b2))).trans hd
      have c7 := c6.put (o' := .deferred none) hd6 rfl
      go_wp2_with fail
      refine leavesM_mark (by simp) hd6 ?_
      obtain ⟨e0, e1, e2⟩ := three (v0 := .int .i64 (numV x.b0)) (v1 := .int .i64 (numV x.b1)) (v2 := .int .i64 (numV x.b2)) c7
      exact ⟨.tuple #[.agg #[.int .i64 (numV x.b0), .int .i64 (numV x.b1), .int .i64 (numV x.b2)], .int .i64 0], by simp [results, Tryd.results18, go_sem, e0, e1, e2], ret_wi Hv.out He.out, bPut hb6 hD _⟩
end Go.Proofs.YtoeobcmmafncmaaDoor

/-
  equal: the three closures of Check, walked.
-/
namespace Go.Proofs.YtoeobcmmafncmaaDoor
open Go.RowKit

/-- What Check's closures have captured. -/
structure CK (w : World) (k a d p : Nat) (key x y E S : Int) : Prop where
  hk : Blk w k 3 #[.int .i64 key]
  ha : Blk w a 3 #[.int .i64 x]
  hd : Blk w d 3 #[.int .i64 y]
  hp : Blk w p 95 #[.int .i64 E, .int .i64 S]
theorem CK.below {w w' : World} {k a d p : Nat} {key x y E S : Int} (h : CK w k a d p key x y E S) (b : Below w.heap.size w w') : CK w' k a d p key x y E S :=
  ⟨h.hk.below b h.hk.lt, h.ha.below b h.ha.lt, h.hd.below b h.hd.lt, h.hp.below b h.hp.lt⟩
def CK.cells (w : World) (k a d p : Nat) (key x y E S : Int) : Prop :=
  w.cell? ⟨k, 0, none⟩ = some (.int .i64 key) ∧ w.cell? ⟨a, 0, none⟩ = some (.int .i64 x) ∧ w.cell? ⟨d, 0, none⟩ = some (.int .i64 y) ∧ w.cell? ⟨p, 0, none⟩ = some (.int .i64 E) ∧ w.cell? ⟨p, 1, none⟩ = some (.int .i64 S)
theorem CK.out {w : World} {k a d p : Nat} {key x y E S : Int} (h : CK w k a d p key x y E S) : w.cell? ⟨k, 0, none⟩ = some (.int .i64 key) ∧ w.cell? ⟨a, 0, none⟩ = some (.int .i64 x) ∧ w.cell? ⟨d, 0, none⟩ = some (.int .i64 y) ∧ w.cell? ⟨p, 0, none⟩ = some (.int .i64 E) ∧ w.cell? ⟨p, 1, none⟩ = some (.int .i64 S) :=
  ⟨h.hk.cell 0, h.ha.cell 0, h.hd.cell 0, h.hp.cell 0, h.hp.cell 1⟩

theorem check1 (W : World) (k a d p : Nat) (key x y E S : Int) (C : CK W k a d p key x y E S) :
    Calls Tryd.prog 61 #[.pointer (some ⟨k, 0, none⟩), .pointer (some ⟨a, 0, none⟩), .pointer (some ⟨d, 0, none⟩)] W (Same (.bool (validB key && validB x && validB y)) W) := by
  obtain ⟨c1, c2, c3, c4, c5⟩ := C.out
  have q1 := group_valid key W
  have q2 := group_valid x W
  have q3 := group_valid y W
  cases h1 : validB key
  · rw [h1] at q1
    clear q2 q3
    go_enter Tryd.func61, Tryd.ntmps61
    go_wp2_with fail
    with_reducible refine q1.mono ?_
    rintro e w1 ⟨rfl, rfl⟩
    go_wp2_with fail
    go_ret
    exact ⟨rfl, rfl⟩
  · cases h2 : validB x
    · rw [h1] at q1
      rw [h2] at q2
      clear q3
      go_enter Tryd.func61, Tryd.ntmps61
      go_wp2_with fail
      with_reducible refine q1.mono ?_
      rintro e w1 ⟨rfl, rfl⟩
      go_wp2_with fail
      with_reducible refine q2.mono ?_
      rintro e w1 ⟨rfl, rfl⟩
      go_wp2_with fail
      go_ret
      exact ⟨rfl, rfl⟩
    · rw [h1] at q1
      rw [h2] at q2
      cases h3 : validB y <;>
      · rw [h3] at q3
        go_enter Tryd.func61, Tryd.ntmps61
        go_wp2_with fail
        with_reducible refine q1.mono ?_
        rintro e w1 ⟨rfl, rfl⟩
        go_wp2_with fail
        with_reducible refine q2.mono ?_
        rintro e w1 ⟨rfl, rfl⟩
        go_wp2_with fail
        with_reducible refine q3.mono ?_
        rintro e w1 ⟨rfl, rfl⟩
        go_wp2_with fail
        go_ret
        exact ⟨rfl, rfl⟩

theorem check2 (W : World) (k a d p : Nat) (key x y E S : Int) (C : CK W k a d p key x y E S) :
    Calls Tryd.prog 62 #[.pointer (some ⟨p, 0, none⟩)] W (Same (.bool (ordB E && ordB S)) W) := by
  obtain ⟨c1, c2, c3, c4, c5⟩ := C.out
  have q1 := equal_inOrder E W
  have q2 := equal_inOrder S W
  cases h1 : ordB E
  · rw [h1] at q1
    clear q2
    go_enter Tryd.func62, Tryd.ntmps62
    go_wp2_with fail
    with_reducible refine q1.mono ?_
    rintro e w1 ⟨rfl, rfl⟩
    go_wp2_with fail
    go_ret
    exact ⟨rfl, rfl⟩
  · rw [h1] at q1
    cases h2 : ordB S <;>
    · rw [h2] at q2
      go_enter Tryd.func62, Tryd.ntmps62
      go_wp2_with fail
      with_reducible refine q1.mono ?_
      rintro e w1 ⟨rfl, rfl⟩
      go_wp2_with fail
      with_reducible refine q2.mono ?_
      rintro e w1 ⟨rfl, rfl⟩
      go_wp2_with fail
      go_ret
      exact ⟨rfl, rfl⟩

/-- What the third closure reckons. -/
abbrev rV (key E S : Int) : Int := mulL [powV 4 S, powV key (-E)]
abbrev sV (x y E S : Int) : Int := mulL [powV x S, powV y (-E)]

set_option maxRecDepth 100000 in
set_option maxHeartbeats 2000000 in
theorem check3 (W : World) (k a d p : Nat) (key x y E S : Int) (C : CK W k a d p key x y E S) (hE : 0 ≤ E ∧ E < 1073741789) (hS : 0 ≤ S ∧ S < 1073741789) (i1 : inI key) (i2 : inI x) (i3 : inI y) (hG : ShaG W) :
    Calls Tryd.prog 64 #[.pointer (some ⟨p, 0, none⟩), .pointer (some ⟨k, 0, none⟩), .pointer (some ⟨a, 0, none⟩), .pointer (some ⟨d, 0, none⟩)] W (Ret (.bool (decide (E = (chalV key x y (rV key E S) (sV x y E S) : Nat)))) W) := by
  obtain ⟨c1, c2, c3, c4, c5⟩ := C.out
  obtain ⟨hE1, hE2⟩ := hE
  obtain ⟨hS1, hS2⟩ := hS
  go_enter Tryd.func64, Tryd.ntmps64
  go_wp2_with fail
  have hneg : Hid (IntKind.i64.wrap (-E) = -E) := by show _ = _; rw [IntKind.wrap_i64]; omega
  go_region_held3 (fun w' => w'.cell? ⟨k, 0, none⟩ = some (.int .i64 key) ∧ w'.cell? ⟨a, 0, none⟩ = some (.int .i64 x) ∧ w'.cell? ⟨d, 0, none⟩ = some (.int .i64 y) ∧ w'.cell? ⟨p, 0, none⟩ = some (.int .i64 E) ∧ w'.cell? ⟨p, 1, none⟩ = some (.int .i64 S))
    (first | exact (C.below (by repeat (first | exact B4 | exact B3 | exact B2 | exact B1 | exact bRefl _ | refine bAl ?_ _ | refine bDr ?_))).out)
    (first
    | (go_simp; go_at_call 34; (with_reducible refine (equal_mul2 (powV x S) (powV y (-E)) _).mono ?_); rintro e w' ⟨rfl, rfl⟩)
    | (go_simp; go_at_call 34; (with_reducible refine (equal_mul2 (powV 4 S) (powV key (-E)) _).mono ?_); rintro e w' ⟨rfl, rfl⟩)
    | (go_simp; go_at_call 35; (try rw [hneg.out]); (with_reducible refine (equal_pow y (-E) _).mono ?_); rintro e w4 ⟨rfl, b4⟩; have B4 : Below W.heap.size W w4 := bCall (by repeat (first | exact B3 | refine bAl ?_ _ | refine bDr ?_)) b4)
    | (go_simp; go_at_call 35; (with_reducible refine (equal_pow x S _).mono ?_); rintro e w3 ⟨rfl, b3⟩; have B3 : Below W.heap.size W w3 := bCall (by repeat (first | exact B2 | refine bAl ?_ _ | refine bDr ?_)) b3)
    | (go_simp; go_at_call 35; (try rw [hneg.out]); (with_reducible refine (equal_pow key (-E) _).mono ?_); rintro e w2 ⟨rfl, b2⟩; have B2 : Below W.heap.size W w2 := bCall (by repeat (first | exact B1 | refine bAl ?_ _ | refine bDr ?_)) b2)
    | (go_simp; go_at_call 35; (with_reducible refine (equal_pow 4 S _).mono ?_); rintro e w1 ⟨rfl, b1⟩; have B1 : Below W.heap.size W w1 := bCall (by repeat (first | exact bRefl _ | refine bAl ?_ _ | refine bDr ?_)) b1))
  have hr := mulL_in [powV 4 S, powV key (-E)]
  have hs := mulL_in [powV x S, powV y (-E)]
  have C4 := C.below (w' := w4.alloc (.cells #[.int .i64 (powV x S), .int .i64 (powV y (-E))] 3)) (bAl B4 _)
  have hb4 := bAl B4 (.cells #[.int .i64 (powV x S), .int .i64 (powV y (-E))] 3)
  generalize w4.alloc (.cells #[.int .i64 (powV x S), .int .i64 (powV y (-E))] 3) = w5 at *
  obtain ⟨c1, c2, c3, c4, c5⟩ := C4.out
  go_wp2_with fail
  go_region_held3 (fun w' => w'.cell? ⟨k, 0, none⟩ = some (.int .i64 key) ∧ w'.cell? ⟨a, 0, none⟩ = some (.int .i64 x) ∧ w'.cell? ⟨d, 0, none⟩ = some (.int .i64 y) ∧ w'.cell? ⟨p, 0, none⟩ = some (.int .i64 E) ∧ w'.cell? ⟨p, 1, none⟩ = some (.int .i64 S))
    (first | exact (C4.below (by repeat (first | exact B6 | exact bRefl _ | refine bAl ?_ _ | refine bDr ?_))).out)
    (first
    | (go_simp; go_at_call 60; (with_reducible refine (challenge_any key x y (rV key E S) (sV x y E S) _ i1 i2 i3 hr hs (hG.below (by repeat (first | exact hb4 | refine bAl ?_ _ | refine bDr ?_)))).mono ?_); rintro e w6 ⟨rfl, b6⟩; have B6 : Below w5.heap.size w5 w6 := bCall (by repeat (first | exact bRefl _ | refine bAl ?_ _ | refine bDr ?_)) b6))
  go_wp2_with fail
  go_ret
  exact ⟨rfl, bCall hb4 B6⟩
end Go.Proofs.YtoeobcmmafncmaaDoor
