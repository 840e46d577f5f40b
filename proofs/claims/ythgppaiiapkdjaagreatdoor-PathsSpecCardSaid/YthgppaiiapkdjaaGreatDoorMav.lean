/-
  equal.CheckBare, walked.
-/
import Derived.Test.YthgppaiiapkdjaaGreatDoorMau
namespace Go.Proofs.YthgppaiiapkdjaaGreatDoor
open Go.RowKit
attribute [local go_sem] Oper.semAt_some

theorem Blk.one_ {w : World} {b : Nat} {t : TypeId} {v : Value} (h : Blk w b t #[v]) : w.cell? ⟨b, 0, none⟩ = some v ∧ w.frozen? ⟨b, 0, none⟩ = false := ⟨h.cell 0, h.frozen 0⟩
theorem Blk.two {w : World} {b : Nat} {t : TypeId} {v u : Value} (h : Blk w b t #[v, u]) : w.cell? ⟨b, 0, none⟩ = some v ∧ w.cell? ⟨b, 1, none⟩ = some u := ⟨h.cell 0, h.cell 1⟩
theorem and5 {a b c d e : Prop} (h1 : a) (h2 : b) (h3 : c) (h4 : d) (h5 : e) : a ∧ b ∧ c ∧ d ∧ e := ⟨h1, h2, h3, h4, h5⟩
theorem and10 {a b c d e f g h i j : Prop} (h1 : a) (h2 : b) (h3 : c) (h4 : d) (h5 : e) (h6 : f) (h7 : g) (h8 : h) (h9 : i) (h10 : j) : a ∧ b ∧ c ∧ d ∧ e ∧ f ∧ g ∧ h ∧ i ∧ j := ⟨h1, h2, h3, h4, h5, h6, h7, h8, h9, h10⟩
theorem Blk.set1 {w : World} {b : Nat} {t : TypeId} {v : Value} (h : Blk w b t #[v]) (u : Value) : Blk (w.setCell ⟨b, 0, none⟩ u) b t #[u] := by simpa using h.set_ 0 u
/-- Is one cipher taken off rightly? -/
def bareAt (key : Int) (x y p : Ltr) (k : Fin 3) : Bool := decide (y.aAt k = x.aAt k) && checkB key (x.aAt k) (mulL [x.bAt k, powV (y.bAt k) (-1)]) (p.aAt k) (p.bAt k)
def bareOne (key : Int) (x y p : Ltr) : Bool := bareAt key x y p 0 && bareAt key x y p 1 && bareAt key x y p 2
/-- Of lists. -/
def bareAll (key : Int) : List Ltr → List Ltr → List Ltr → Bool
  | x :: l, y :: m, p :: q => bareOne key x y p && bareAll key l m q
  | _, _, _ => true
/-- One cipher of the lists. -/
def bareZ (key : Int) {l : List Ltr} (x p : List Ltr) (z : Pl l) : Bool := bareAt key z.ltr (x.getD z.i zeroL) (p.getD z.i zeroL) z.k
theorem bareAll_bad {key : Int} : ∀ {l x p : List Ltr}, l.length = x.length → l.length = p.length → ∀ z : Pl l, bareZ key x p z = false → bareAll key l x p = false
  | [], _, _, _, _, z, _ => absurd z.hi (by simp)
  | X :: l, [], _, h, _, _, _ => by simp at h
  | X :: l, _ :: _, [], _, h, _, _ => by simp at h
  | X :: l, Y :: x, Z :: p, h1, h2, ⟨0, k, hi⟩, hz => by
    have hz' : bareAt key X Y Z k = false := hz
    unfold bareAll bareOne
    match k, hz' with
    | 0, e => rw [e]; rfl
    | 1, e => rw [e]; simp
    | 2, e => rw [e]; simp
  | X :: l, Y :: x, Z :: p, h1, h2, ⟨i + 1, k, hi⟩, hz => by
    have := bareAll_bad (key := key) (l := l) (x := x) (p := p) (by simpa using h1) (by simpa using h2) ⟨i, k, by simpa using hi⟩ hz
    unfold bareAll
    rw [this]; simp
theorem bareAll_ok {key : Int} : ∀ {l x p : List Ltr}, l.length = x.length → l.length = p.length → (∀ z : Pl l, bareZ key x p z = true) → bareAll key l x p = true
  | [], _, _, _, _, _ => by unfold bareAll; rfl
  | X :: l, [], _, h, _, _ => by simp at h
  | X :: l, _ :: _, [], _, h, _ => by simp at h
  | X :: l, Y :: x, Z :: p, h1, h2, hz => by
    have := bareAll_ok (key := key) (l := l) (x := x) (p := p) (by simpa using h1) (by simpa using h2) (fun z => hz ⟨z.i + 1, z.k, by have := z.hi; simp; omega⟩)
    have h0 : ∀ k, bareAt key X Y Z k = true := fun k => hz ⟨0, k, by simp⟩
    unfold bareAll bareOne
    rw [this, h0, h0, h0]; rfl
def checkBareB (key : Int) (l m q : List Ltr) : Bool := validB key && (decide (l.length = m.length) && (decide (l.length = q.length) && (decide (chkL l = 0) && (decide (chkL m = 0) && bareAll key l m q))))

set_option maxRecDepth 100000 in
set_option maxHeartbeats 16000000 in
theorem equal_checkBare (key : Int) (A B C : Option Addr) (n m q ca cb cc : Nat) (l x p : List Ltr) (W : World) (hA : Rd W W.heap.size 6 A n (l.flatMap Ltr.cl)) (hB : Rd W W.heap.size 6 B m (x.flatMap Ltr.cl)) (hC : Rd W W.heap.size 6 C q (p.flatMap Ltr.cl))
    (hn : n ≤ 9223372036854775807) (hm : m ≤ 9223372036854775807) (hq : q ≤ 9223372036854775807) (hG : ShaG W) :
    Calls Tryz.prog 17 #[.int .i64 key, .slice A n ca, .slice B m cb, .slice C q cc] W (Ret (.bool (checkBareB key l x p)) W) := by
  obtain rfl : l.length = n := Ltrs_length hA
  obtain rfl : x.length = m := Ltrs_length hB
  obtain rfl : p.length = q := Ltrs_length hC
  refine calls_of_wp_dm Tryz.func17 rfl ?_
  obtain ⟨v, hv⟩ : ∃ v, v = checkBareB key l x p := ⟨_, rfl⟩
  rw [← hv]
  obtain ⟨W3, hW3⟩ : ∃ W3, W3 = (((W.alloc (.cells #[.int .i64 key] 3)).alloc (.cells #[.slice B x.length cb] 24)).alloc (.cells #[.slice C p.length cc] 52)).alloc (.cells #[.bool false] 4) := ⟨_, rfl⟩
  have h3 : Below W.heap.size W W3 := by rw [hW3]; exact bAl (bAl (bAl (bAl (bRefl W) _) _) _) _
  have BK : Blk W3 W.heap.size 3 #[.int .i64 key] := by rw [hW3]; exact (((Blk.new _ _ _ _ rfl).alloc _).alloc _).alloc _
  have BX : Blk W3 (W.heap.size + 1) 24 #[.slice B x.length cb] := by rw [hW3]; exact ((Blk.new _ _ _ _ (by simp)).alloc _).alloc _
  have BQ : Blk W3 (W.heap.size + 1 + 1) 52 #[.slice C p.length cc] := by rw [hW3]; exact (Blk.new _ _ _ _ (by simp)).alloc _
  have BV : Blk W3 (W.heap.size + 1 + 1 + 1) 4 #[.bool false] := by rw [hW3]; exact Blk.new _ _ _ _ (by simp)
  simp only [Tryz.ntmps17, List.size_toArray, List.length_cons, List.length_nil, Nat.reduceAdd, Nat.reduceSub, Array.replicate_succ, Array.replicate_zero, List.push_toArray, List.append_toArray, List.nil_append, List.cons_append]







  have q1 := group_valid key W3
  obtain ⟨k0, _⟩ := BK.one_
  obtain ⟨k1, _⟩ := BX.one_
  obtain ⟨k2, _⟩ := BQ.one_
  cases h1 : validB key
  · have Hv : Hid (v = false) := by show _ = _; rw [hv]; unfold checkBareB; rw [h1]; rfl
    rw [h1] at q1
    clear hv h1
    go_upto_region 1 with fail
    rw [← hW3]
    clear hW3
    go_wp2_with fail
    (with_reducible refine q1.mono ?_)
    rintro e w4 ⟨rfl, rfl⟩
    clear q1
    obtain ⟨k3, z3⟩ := BV.one_
    have e0 := (BV.set1 (.bool false)).one_.1
    go_wp2_with fail
    exact ⟨.bool false, by simp [results, Tryz.results17, go_sem, e0], ret_bool Hv.out.symm, bSet h3 (by show W.heap.size ≤ W.heap.size + 1 + 1 + 1; omega) _⟩
  rw [h1] at q1
  by_cases h2 : l.length = x.length
  case neg =>
    have Hv : Hid (v = false) := by show _ = _; rw [hv]; unfold checkBareB; rw [decide_eq_false h2]; simp
    have t2 : ((l.length : Int) != (x.length : Int)) = true := by rw [bne_iff_ne]; omega
    clear hv h1 h2
    go_upto_region 1 with fail
    rw [← hW3]
    clear hW3
    go_wp2_with fail
    (with_reducible refine q1.mono ?_)
    rintro e w4 ⟨rfl, rfl⟩
    clear q1
    obtain ⟨k3, z3⟩ := BV.one_
    have e0 := (BV.set1 (.bool false)).one_.1
    go_wp2_with fail
    exact ⟨.bool false, by simp [results, Tryz.results17, go_sem, e0], ret_bool Hv.out.symm, bSet h3 (by show W.heap.size ≤ W.heap.size + 1 + 1 + 1; omega) _⟩
  have t2 : ((l.length : Int) != (x.length : Int)) = false := by rw [h2]; simp
  have H2 := Lib.hid h2
  by_cases h4 : l.length = p.length
  case neg =>
    have Hv : Hid (v = false) := by show _ = _; rw [hv]; unfold checkBareB; rw [decide_eq_false h4]; simp
    have t4 : ((l.length : Int) != (p.length : Int)) = true := by rw [bne_iff_ne]; omega
    clear hv h1 h2 h4
    go_upto_region 1 with fail
    rw [← hW3]
    clear hW3
    go_wp2_with fail
    (with_reducible refine q1.mono ?_)
    rintro e w4 ⟨rfl, rfl⟩
    clear q1
    obtain ⟨k3, z3⟩ := BV.one_
    have e0 := (BV.set1 (.bool false)).one_.1
    go_wp2_with fail
    exact ⟨.bool false, by simp [results, Tryz.results17, go_sem, e0], ret_bool Hv.out.symm, bSet h3 (by show W.heap.size ≤ W.heap.size + 1 + 1 + 1; omega) _⟩
  have t4 : ((l.length : Int) != (p.length : Int)) = false := by rw [h4]; simp
  have H4 := Lib.hid h4
  clear h2 h4
  have q2 := equal_chk A l.length ca l W3 (hA.below h3 |>.more h3.size) hn
  by_cases h5 : chkL l = 0
  case neg =>
    have Hv : Hid (v = false) := by show _ = _; rw [hv]; unfold checkBareB; rw [decide_eq_false h5]; simp
    have t5 : (chkL l != 0) = true := by rw [bne_iff_ne]; exact h5
    clear hv h1 h5
    go_upto_region 1 with fail
    rw [← hW3]
    clear hW3
    go_wp2_with fail
    (with_reducible refine q1.mono ?_)
    rintro e w4 ⟨rfl, rfl⟩
    clear q1
    go_wp2_with fail
    (with_reducible refine q2.mono ?_)
    rintro e w5 ⟨rfl, b5⟩
    clear q2
    replace h3 := bCall h3 b5
    replace BV := BV.below b5 BV.lt
    clear k0 k1 k2
    obtain ⟨k3, z3⟩ := BV.one_
    have e0 := (BV.set1 (.bool false)).one_.1
    go_wp2_with fail
    exact ⟨.bool false, by simp [results, Tryz.results17, go_sem, e0], ret_bool Hv.out.symm, bSet h3 (by show W.heap.size ≤ W.heap.size + 1 + 1 + 1; omega) _⟩
  rw [h5] at q2
  by_cases h6 : chkL x = 0
  case neg =>
    have Hv : Hid (v = false) := by show _ = _; rw [hv]; unfold checkBareB; rw [decide_eq_false h6]; simp
    have t6 : (chkL x != 0) = true := by rw [bne_iff_ne]; exact h6
    clear hv h1 h6
    go_upto_region 1 with fail
    rw [← hW3]
    clear hW3
    go_wp2_with fail
    (with_reducible refine q1.mono ?_)
    rintro e w4 ⟨rfl, rfl⟩
    clear q1
    go_wp2_with fail
    (with_reducible refine q2.mono ?_)
    rintro e w5 ⟨rfl, b5⟩
    clear q2
    replace h3 := bCall h3 b5
    replace BV := BV.below b5 BV.lt
    replace BX := BX.below b5 BX.lt
    clear k0 k1 k2
    obtain ⟨k1, _⟩ := BX.one_
    have q3 := equal_chk B x.length cb x w5 (hB.below h3 |>.more h3.size) hm
    go_wp2_with fail
    (with_reducible refine q3.mono ?_)
    rintro e w6 ⟨rfl, b6⟩
    clear q3
    replace h3 := bCall h3 b6
    replace BV := BV.below b6 BV.lt
    clear k1
    obtain ⟨k3, z3⟩ := BV.one_
    have e0 := (BV.set1 (.bool false)).one_.1
    go_wp2_with fail
    exact ⟨.bool false, by simp [results, Tryz.results17, go_sem, e0], ret_bool Hv.out.symm, bSet h3 (by show W.heap.size ≤ W.heap.size + 1 + 1 + 1; omega) _⟩
  have Hv : Hid (v = bareAll key l x p) := by show _ = _; rw [hv]; unfold checkBareB; rw [h1, h5, h6, decide_eq_true H2.out, decide_eq_true H4.out]; rfl
  have hgl : Hid (l.all Ltr.good = true) := by show _ = _; unfold chkL at h5; split at h5; · omega
                                               split at h5; · assumption
                                               omega
  have hky := validB_rng h1
  clear hv h1 h5
  go_upto_region 1 with fail
  rw [← hW3]
  clear hW3
  go_wp2_with fail
  (with_reducible refine q1.mono ?_)
  rintro e w4 ⟨rfl, rfl⟩
  clear q1
  go_wp2_with fail
  (with_reducible refine q2.mono ?_)
  rintro e w5 ⟨rfl, b5⟩
  clear q2
  replace h3 := bCall h3 b5
  replace BV := BV.below b5 BV.lt
  replace BK := BK.below b5 BK.lt
  replace BQ := BQ.below b5 BQ.lt
  replace BX := BX.below b5 BX.lt
  clear k0 k1 k2
  obtain ⟨k1, _⟩ := BX.one_
  have q3 := equal_chk B x.length cb x w5 (hB.below h3 |>.more h3.size) hm
  rw [h6] at q3
  go_wp2_with fail
  (with_reducible refine q3.mono ?_)
  rintro e w6 ⟨rfl, b6⟩
  clear q3
  replace h3 := bCall h3 b6
  replace BV := BV.below b6 BV.lt
  replace BX := BX.below b6 BX.lt
  replace BK := BK.below b6 BK.lt
  replace BQ := BQ.below b6 BQ.lt
  clear k1 h6
  go_wp2_with fail
  refine (equal_ciphers _ _ ⟨_, _, _, rfl⟩).mono ?_
  rintro e w' ⟨rfl, rfl⟩
  go_wp2_with fail
  obtain ⟨bp, hbp⟩ : ∃ bp, bp = w6.heap.size := ⟨_, rfl⟩
  have BP := Blk.new w6 24 #[.slice A l.length ca] bp hbp
  replace BV := BV.alloc (.cells #[.slice A l.length ca] 24)
  replace BX := BX.alloc (.cells #[.slice A l.length ca] 24)
  replace BK := BK.alloc (.cells #[.slice A l.length ca] 24)
  replace BQ := BQ.alloc (.cells #[.slice A l.length ca] 24)
  have h7 := bAl h3 (.cells #[.slice A l.length ca] 24)
  have hlt : W.heap.size + 1 + 1 + 1 < bp ∨ bp = bp := .inr rfl
  rw [← hbp]
  clear h3 b5 b6 hlt hbp t2 t4
  generalize w6.alloc (.cells #[.slice A l.length ca] 24) = w7 at *
  refine wp_rangeBA 2 (gf := 60) (lb := #[.pointer (some ⟨bp, 0, none⟩)]) rfl (enters_of Tryz.func60 (by kernel_rfl) rfl)
    (fun k => k < W.heap.size ∨ k = bp) (eq_ciphers_stops bp W.heap.size l.length ca A l (fun k => k < W.heap.size ∨ k = bp) (.inr rfl) w7 h7.size (fun k hk => .inl hk) BP (hA.below h7) hn) (fun k hk => by have h1 := BP.lt; have h2 := h7.size; omega) (fun _ => rfl) W h7
    (fun pre => [(W.heap.size, 3, #[.int .i64 key]), (W.heap.size + 1, 24, #[.slice B x.length cb]), (W.heap.size + 1 + 1, 52, #[.slice C p.length cc]), (W.heap.size + 1 + 1 + 1, 4, #[.bool false]), (bp, 24, #[.slice A l.length ca])])
    (fun pre => Hid (∀ z ∈ pre, bareZ key x p z = true)) (fun _ _ => [(W.heap.size + 1 + 1 + 1, 4, #[.bool false])]) (fun c _ => c = .ret ∧ Hid (v = false)) ⟨BK, BX, BQ, BV, BP, trivial⟩ (Lib.hid (by simp)) ?round ?done ?stop
  case round =>
    rintro _ pre z W0 hlen hb0 ⟨c1, c2, c3, c4, c5, _⟩ hR
    clear BK BX BQ BV BP h7
    dsimp only at c1 c2 c3 c4 c5
    obtain ⟨i, k, hi⟩ := z
    obtain ⟨X, hX⟩ : ∃ X, Hid (l[i]? = some X) := ⟨_, Lib.hid (List.getElem?_eq_getElem hi)⟩
    rw [plE_at hX.out k hi]
    gi_wp2
    refine ⟨[(W0.heap.size, 97, #[.int .i64 (i : Nat), .int .i64 (k.val : Nat)]), (W0.heap.size + 1, 42, #[.int .i64 (X.aAt k), .int .i64 (X.bAt k)])], KeepsOthers.below (bAl (bAl (bRefl _) _) _), Keeps.of_below (bAl (bAl (bRefl _) _) _) (fun j hj => by have h1 := c5.lt; have h2 := hb0.size; omega), bAl (bAl hb0 _) _, ⟨(Blk.new _ _ _ _ rfl).alloc _, Blk.new _ _ _ _ (by simp), (c1.alloc _).alloc _, (c2.alloc _).alloc _, (c3.alloc _).alloc _, (c4.alloc _).alloc _, (c5.alloc _).alloc _, trivial⟩, fun L Wc hbc hBl => ?_⟩
    have ht1 := c4.lt
    have ht2 := c5.lt
    clear c1 c2 c3 c4 c5
    generalize W0.heap.size = s0 at *
    obtain ⟨d1, d2, c1, c2, c3, c4, c5, _⟩ := hBl
    dsimp only at c1 c2 c3 c4 c5 d1 d2
    have hi' : i < x.length := by have := H2.out; omega
    have hi2 : i < p.length := by have := H4.out; omega
    obtain ⟨Y, hY⟩ : ∃ Y, Hid (x[i]? = some Y) := ⟨_, Lib.hid (List.getElem?_eq_getElem hi')⟩
    obtain ⟨Z, hZ⟩ : ∃ Z, Hid (p[i]? = some Z) := ⟨_, Lib.hid (List.getElem?_eq_getElem hi2)⟩
    obtain ⟨b, off, rfl, hbb, x0, x1⟩ := Ltr_atk (hB.below hbc) hi' hY.out k
    obtain ⟨b2, off2, rfl, hbb2, y0, y1⟩ := Ltr_atk (hC.below hbc) hi2 hZ.out k
    have hbz := hbc.size
    have i1 : (0 : Int) ≤ (i : Int) := by omega
    have i2 : (i : Int) < (x.length : Int) := by omega
    have i3 : (i : Int) < (p.length : Int) := by omega
    have k1 : (0 : Int) ≤ (k.val : Int) := by omega
    have k2 : (k.val : Int) < 3 := by have := k.isLt; omega
    have KS : Hid (∀ w', Below Wc.heap.size Wc w' → _) := Lib.hid (fun w' h => and5 (c2.below h c2.lt).one_.1 (d1.below h d1.lt).two.1 (d1.below h d1.lt).two.2 ((h.cell (p := ⟨b, off + i * 6 + k.val * 2, none⟩) (by show b < _; omega)).trans x0) ((h.cell (p := ⟨b, off + i * 6 + k.val * 2 + 1, none⟩) (by show b < _; omega)).trans x1))
    gi_wp2_with fail
    refine wpIn_region_mask (fun w' => w'.cell? ⟨W.heap.size + 1, 0, none⟩ = some (.slice (some ⟨b, off, none⟩) x.length cb) ∧ w'.cell? ⟨s0, 0, none⟩ = some (.int .i64 (i : Nat)) ∧ w'.cell? ⟨s0, 1, none⟩ = some (.int .i64 (k.val : Nat)) ∧ w'.cell? ⟨b, off + i * 6 + k.val * 2, none⟩ = some (.int .i64 (Y.aAt k)) ∧ w'.cell? ⟨b, off + i * 6 + k.val * 2 + 1, none⟩ = some (.int .i64 (Y.bAt k))) 9 1 [2, 1, 2, 1, 2, 1, 1, 2, 0, 0] (by kernel_rfl) (by kernel_rfl) (by exact KS.out _ (by repeat (first | exact bRefl _ | refine bAl ?_ _ | refine bDr ?_))) ?_
    simp only [pickH, pickT]
    (refine wpHeads_cons (v := ?_) (by rfl) ?_ ?_; rotate_left 1; focus (intro w hSw; (try simp only [cond_true] at hSw); go_simp; try with_reducible rfl))
    simp only [Act.put, List.setIfInBounds_toArray, List.set_cons_zero, List.set_cons_succ]
    (refine wpHeads_cons (v := ?_) (by rfl) ?_ ?_; rotate_left 1; focus (intro w hSw; (try simp only [cond_false] at hSw); go_simp; try with_reducible rfl))
    simp only [Act.put, List.setIfInBounds_toArray, List.set_cons_zero, List.set_cons_succ]
    (refine wpHeads_cons (v := ?_) (by rfl) ?_ ?_; rotate_left 1; focus (intro w hSw; (try simp only [cond_true] at hSw); go_simp; try with_reducible rfl))
    simp only [Act.put, List.setIfInBounds_toArray, List.set_cons_zero, List.set_cons_succ]
    (refine wpHeads_cons (v := ?_) (by rfl) ?_ ?_; rotate_left 1; focus (intro w hSw; (try simp only [cond_false] at hSw); go_simp; try with_reducible rfl))
    simp only [Act.put, List.setIfInBounds_toArray, List.set_cons_zero, List.set_cons_succ]
    (refine wpHeads_cons (v := ?_) (by rfl) ?_ ?_; rotate_left 1; focus (intro w hSw; (try simp only [cond_true] at hSw); go_simp; try with_reducible rfl))
    simp only [Act.put, List.setIfInBounds_toArray, List.set_cons_zero, List.set_cons_succ]
    iterate 2 ((refine wpHeads_cons (v := ?_) (by rfl) ?_ ?_; rotate_left 1; focus (intro w hSw; (try simp only [cond_false] at hSw); go_simp; try with_reducible rfl)); simp only [Act.put, List.setIfInBounds_toArray, List.set_cons_zero, List.set_cons_succ])
    (refine wpHeads_cons (v := ?_) (by rfl) ?_ ?_; rotate_left 1; focus (intro w hSw; (try simp only [cond_true] at hSw); go_simp; try with_reducible rfl))
    simp only [Act.put, List.setIfInBounds_toArray, List.set_cons_zero, List.set_cons_succ]
    refine wpHeads_nil ?_
    iterate 1 (refine wpTailS_cons (fun K hK => ?_); go_simp; (first | (fail) | skip); refine hK.out _ _ (by exact KS.out _ (by repeat (first | exact bRefl _ | refine bAl ?_ _ | refine bDr ?_))) (fun hHeld => ?_); clear hHeld hK K; try simp only [Act.put, List.setIfInBounds_toArray, List.set_cons_zero, List.set_cons_succ])
    refine wpTailS_zero ?_
    go_wp2_with fail
    refine NoOut.normal ?_
    have D3 : Blk (Wc.alloc (.cells #[.int .i64 (Y.aAt k), .int .i64 (Y.bAt k)] 42)).drew Wc.heap.size 42 #[.int .i64 (Y.aAt k), .int .i64 (Y.bAt k)] := Blk.new Wc _ _ _ rfl
    have b8 : Below Wc.heap.size Wc (Wc.alloc (.cells #[.int .i64 (Y.aAt k), .int .i64 (Y.bAt k)] 42)).drew := bDr (bAl (bRefl _) _)
    generalize (Wc.alloc (.cells #[.int .i64 (Y.aAt k), .int .i64 (Y.bAt k)] 42)).drew = w8 at *
    have e1 := c1.below b8 c1.lt
    have e2 := c2.below b8 c2.lt
    have e3 := c3.below b8 c3.lt
    have e4 := c4.below b8 c4.lt
    have e5 := c5.below b8 c5.lt
    have e6 := d1.below b8 d1.lt
    have e7 := d2.below b8 d2.lt
    replace y0 := (b8.cell (p := ⟨b2, off2 + i * 6 + k.val * 2, none⟩) (by show b2 < _; omega)).trans y0
    replace y1 := (b8.cell (p := ⟨b2, off2 + i * 6 + k.val * 2 + 1, none⟩) (by show b2 < _; omega)).trans y1
    have hb8 := hbc.trans (b8.mono hbz)
    have kO := KeepsOthers.below b8
    have kK : Keeps (fun k => k < W.heap.size ∨ k = bp) Wc w8 := Keeps.of_below b8 (fun j hj => by have := c5.lt; omega)
    clear x0 x1 KS c1 c2 c3 d1 d2
    generalize Wc.heap.size = s1 at *
    have hz8 := hb8.size
    have KS : Hid (∀ w', Below w8.heap.size w8 w' → _) := Lib.hid (fun w' h => and10 (D3.below h D3.lt).two.1 (D3.below h D3.lt).two.2 (e7.below h e7.lt).two.1 (e7.below h e7.lt).two.2 (e1.below h e1.lt).one_.1 (e3.below h e3.lt).one_.1 (e6.below h e6.lt).two.1 (e6.below h e6.lt).two.2 ((h.cell (p := ⟨b2, off2 + i * 6 + k.val * 2, none⟩) (by show b2 < _; omega)).trans y0) ((h.cell (p := ⟨b2, off2 + i * 6 + k.val * 2 + 1, none⟩) (by show b2 < _; omega)).trans y1))
    have HXY : Hid (bareZ key x p ⟨i, k, hi⟩ = (decide (Y.aAt k = X.aAt k) && checkB key (X.aAt k) (mulL [X.bAt k, powV (Y.bAt k) (-1)]) (Z.aAt k) (Z.bAt k))) := by
      show _ = _
      unfold bareZ Pl.ltr
      dsimp only
      rw [List.getD_eq_getElem?_getD, List.getD_eq_getElem?_getD, hY.out, hZ.out]
      obtain ⟨_, rfl⟩ := List.getElem?_eq_some_iff.1 hX.out
      rfl
    gi_wp2_with fail
    by_cases hne : Y.aAt k = X.aAt k
    · have t : (Y.aAt k != X.aAt k) = false := by rw [hne]; simp
      have hia : inI (X.aAt k) := by
        have hXg : X.good = true := List.all_eq_true.1 hgl.out X (List.mem_of_getElem? hX.out)
        have := validB_rng (good_at hXg k).1
        exact ⟨by omega, by omega⟩
      have He5 := e5.lt
      cases hcb : checkB key (X.aAt k) (mulL [X.bAt k, powV (Y.bAt k) (-1)]) (Z.aAt k) (Z.bAt k)
      · have hfalse : Hid (v = false) := by
          show _ = _
          rw [Hv.out]
          exact bareAll_bad H2.out H4.out ⟨i, k, hi⟩ (by rw [HXY.out, hcb, Bool.and_false])
        have q4 : Hid (∀ w, ShaG w → Calls Tryz.prog 37 #[.int .i64 key, .int .i64 (X.aAt k), .int .i64 (mulL [X.bAt k, powV (Y.bAt k) (-1)]), .agg #[.int .i64 (Z.aAt k), .int .i64 (Z.bAt k)]] w (Ret (.bool false) w)) := fun w h => by
          have := equal_check w key (X.aAt k) (mulL [X.bAt k, powV (Y.bAt k) (-1)]) (Z.aAt k) (Z.bAt k) ⟨by omega, by omega⟩ hia (mulL_in _) h
          rw [hcb] at this
          exact this
        clear hcb hne hia
        refine wpIn_region_mask (fun w' => w'.cell? ⟨s1, 0, none⟩ = some (.int .i64 (Y.aAt k)) ∧ w'.cell? ⟨s1, 1, none⟩ = some (.int .i64 (Y.bAt k)) ∧ w'.cell? ⟨s0 + 1, 0, none⟩ = some (.int .i64 (X.aAt k)) ∧ w'.cell? ⟨s0 + 1, 1, none⟩ = some (.int .i64 (X.bAt k)) ∧ w'.cell? ⟨W.heap.size, 0, none⟩ = some (.int .i64 key) ∧ w'.cell? ⟨W.heap.size + 1 + 1, 0, none⟩ = some (.slice (some ⟨b2, off2, none⟩) p.length cc) ∧ w'.cell? ⟨s0, 0, none⟩ = some (.int .i64 (i : Nat)) ∧ w'.cell? ⟨s0, 1, none⟩ = some (.int .i64 (k.val : Nat)) ∧ w'.cell? ⟨b2, off2 + i * 6 + k.val * 2, none⟩ = some (.int .i64 (Z.aAt k)) ∧ w'.cell? ⟨b2, off2 + i * 6 + k.val * 2 + 1, none⟩ = some (.int .i64 (Z.bAt k))) 26 5 [1, 2, 1, 2, 1, 1, 2, 1, 2, 1, 2, 1, 2, 0, 0, 0, 2, 1, 2, 1, 2, 1, 1, 2, 0, 0, 0] (by kernel_rfl) (by kernel_rfl) (by exact KS.out _ (by repeat (first | exact B2 | exact B1 | exact bRefl _ | refine bAl ?_ _ | refine bDr ?_))) ?_
        simp only [pickH, pickT]
        (refine wpHeads_cons (v := ?_) (by rfl) ?_ ?_; rotate_left 1; focus (intro w hSw; (try simp only [cond_false] at hSw); go_simp; try with_reducible rfl))
        simp only [Act.put, List.setIfInBounds_toArray, List.set_cons_zero, List.set_cons_succ]
        (refine wpHeads_cons (v := ?_) (by rfl) ?_ ?_; rotate_left 1; focus (intro w hSw; (try simp only [cond_true] at hSw); go_simp; try with_reducible rfl))
        simp only [Act.put, List.setIfInBounds_toArray, List.set_cons_zero, List.set_cons_succ]
        (refine wpHeads_cons (v := ?_) (by rfl) ?_ ?_; rotate_left 1; focus (intro w hSw; (try simp only [cond_false] at hSw); go_simp; try with_reducible rfl))
        simp only [Act.put, List.setIfInBounds_toArray, List.set_cons_zero, List.set_cons_succ]
        (refine wpHeads_cons (v := ?_) (by rfl) ?_ ?_; rotate_left 1; focus (intro w hSw; (try simp only [cond_true] at hSw); go_simp; try with_reducible rfl))
        simp only [Act.put, List.setIfInBounds_toArray, List.set_cons_zero, List.set_cons_succ]
        iterate 2 ((refine wpHeads_cons (v := ?_) (by rfl) ?_ ?_; rotate_left 1; focus (intro w hSw; (try simp only [cond_false] at hSw); go_simp; try with_reducible rfl)); simp only [Act.put, List.setIfInBounds_toArray, List.set_cons_zero, List.set_cons_succ])
        (refine wpHeads_cons (v := ?_) (by rfl) ?_ ?_; rotate_left 1; focus (intro w hSw; (try simp only [cond_true] at hSw); go_simp; try with_reducible rfl))
        simp only [Act.put, List.setIfInBounds_toArray, List.set_cons_zero, List.set_cons_succ]
        (refine wpHeads_cons (v := ?_) (by rfl) ?_ ?_; rotate_left 1; focus (intro w hSw; (try simp only [cond_false] at hSw); go_simp; try with_reducible rfl))
        simp only [Act.put, List.setIfInBounds_toArray, List.set_cons_zero, List.set_cons_succ]
        (refine wpHeads_cons (v := ?_) (by rfl) ?_ ?_; rotate_left 1; focus (intro w hSw; (try simp only [cond_true] at hSw); go_simp; try with_reducible rfl))
        simp only [Act.put, List.setIfInBounds_toArray, List.set_cons_zero, List.set_cons_succ]
        (refine wpHeads_cons (v := ?_) (by rfl) ?_ ?_; rotate_left 1; focus (intro w hSw; (try simp only [cond_false] at hSw); go_simp; try with_reducible rfl))
        simp only [Act.put, List.setIfInBounds_toArray, List.set_cons_zero, List.set_cons_succ]
        (refine wpHeads_cons (v := ?_) (by rfl) ?_ ?_; rotate_left 1; focus (intro w hSw; (try simp only [cond_true] at hSw); go_simp; try with_reducible rfl))
        simp only [Act.put, List.setIfInBounds_toArray, List.set_cons_zero, List.set_cons_succ]
        (refine wpHeads_cons (v := ?_) (by rfl) ?_ ?_; rotate_left 1; focus (intro w hSw; (try simp only [cond_false] at hSw); go_simp; try with_reducible rfl))
        simp only [Act.put, List.setIfInBounds_toArray, List.set_cons_zero, List.set_cons_succ]
        iterate 2 ((refine wpHeads_cons (v := ?_) (by rfl) ?_ ?_; rotate_left 1; focus (intro w hSw; (try simp only [cond_true] at hSw); go_simp; try with_reducible rfl)); simp only [Act.put, List.setIfInBounds_toArray, List.set_cons_zero, List.set_cons_succ])
        (refine wpHeads_cons (v := ?_) (by rfl) ?_ ?_; rotate_left 1; focus (intro w hSw; (try simp only [cond_false] at hSw); go_simp; try with_reducible rfl))
        simp only [Act.put, List.setIfInBounds_toArray, List.set_cons_zero, List.set_cons_succ]
        (refine wpHeads_cons (v := ?_) (by rfl) ?_ ?_; rotate_left 1; focus (intro w hSw; (try simp only [cond_true] at hSw); go_simp; try with_reducible rfl))
        simp only [Act.put, List.setIfInBounds_toArray, List.set_cons_zero, List.set_cons_succ]
        (refine wpHeads_cons (v := ?_) (by rfl) ?_ ?_; rotate_left 1; focus (intro w hSw; (try simp only [cond_false] at hSw); go_simp; try with_reducible rfl))
        simp only [Act.put, List.setIfInBounds_toArray, List.set_cons_zero, List.set_cons_succ]
        (refine wpHeads_cons (v := ?_) (by rfl) ?_ ?_; rotate_left 1; focus (intro w hSw; (try simp only [cond_true] at hSw); go_simp; try with_reducible rfl))
        simp only [Act.put, List.setIfInBounds_toArray, List.set_cons_zero, List.set_cons_succ]
        iterate 2 ((refine wpHeads_cons (v := ?_) (by rfl) ?_ ?_; rotate_left 1; focus (intro w hSw; (try simp only [cond_false] at hSw); go_simp; try with_reducible rfl)); simp only [Act.put, List.setIfInBounds_toArray, List.set_cons_zero, List.set_cons_succ])
        (refine wpHeads_cons (v := ?_) (by rfl) ?_ ?_; rotate_left 1; focus (intro w hSw; (try simp only [cond_true] at hSw); go_simp; try with_reducible rfl))
        simp only [Act.put, List.setIfInBounds_toArray, List.set_cons_zero, List.set_cons_succ]
        refine wpHeads_nil ?_
        iterate 5 (refine wpTailS_cons (fun K hK => ?_); go_simp; (first | (go_at_call 37; (with_reducible refine (q4.out _ (hG.below (hb8.trans (Below.mono (by repeat (first | exact B1 | exact bRefl _ | refine bAl ?_ _ | refine bDr ?_)) hz8)))).mono ?_); rintro e w9 ⟨rfl, b9⟩; have B2 : Below w8.heap.size w8 w9 := bCall (by repeat (first | exact B1 | exact bRefl _ | refine bAl ?_ _ | refine bDr ?_)) b9) | (go_at_call 38; (with_reducible refine (equal_mul2 (X.bAt k) (powV (Y.bAt k) (-1)) _).mono ?_); rintro e w' ⟨rfl, rfl⟩) | (go_at_call 39; (with_reducible refine (equal_pow (Y.bAt k) (-1) _).mono ?_); rintro e w9 ⟨rfl, b9⟩; have B1 : Below w8.heap.size w8 w9 := bCall (by repeat (first | exact bRefl _ | refine bAl ?_ _ | refine bDr ?_)) b9) | skip); refine hK.out _ _ (by exact KS.out _ (by repeat (first | exact B2 | exact B1 | exact bRefl _ | refine bAl ?_ _ | refine bDr ?_))) (fun hHeld => ?_); clear hHeld hK K; try simp only [Act.put, List.setIfInBounds_toArray, List.set_cons_zero, List.set_cons_succ])
        refine wpTailS_zero ?_
        go_wp2_with fail
        refine NoOut.normal ?_
        have h9 := hb8.trans (B2.mono hz8)
        replace b9 := B2
        clear B1 B2 q4 KS
        obtain ⟨k3, z3⟩ := (e4.below b9 e4.lt).one_
        gi_wp2_with fail
        exact ⟨kO.trans ((KeepsOthers.below b9).trans (KeepsOthers.setCell _ _ _)), bSet h9 (by show W.heap.size ≤ W.heap.size + 1 + 1 + 1; omega) _, ⟨(e4.below b9 e4.lt).set1 _, trivial⟩, rfl, hfalse⟩
      · have hbz' : Hid (bareZ key x p ⟨i, k, hi⟩ = true) := by show _ = _; rw [HXY.out, hcb, decide_eq_true hne]; rfl
        have q4 : Hid (∀ w, ShaG w → Calls Tryz.prog 37 #[.int .i64 key, .int .i64 (X.aAt k), .int .i64 (mulL [X.bAt k, powV (Y.bAt k) (-1)]), .agg #[.int .i64 (Z.aAt k), .int .i64 (Z.bAt k)]] w (Ret (.bool true) w)) := fun w h => by
          have := equal_check w key (X.aAt k) (mulL [X.bAt k, powV (Y.bAt k) (-1)]) (Z.aAt k) (Z.bAt k) ⟨by omega, by omega⟩ hia (mulL_in _) h
          rw [hcb] at this
          exact this
        clear hcb hne hia
        refine wpIn_region_mask (fun w' => w'.cell? ⟨s1, 0, none⟩ = some (.int .i64 (Y.aAt k)) ∧ w'.cell? ⟨s1, 1, none⟩ = some (.int .i64 (Y.bAt k)) ∧ w'.cell? ⟨s0 + 1, 0, none⟩ = some (.int .i64 (X.aAt k)) ∧ w'.cell? ⟨s0 + 1, 1, none⟩ = some (.int .i64 (X.bAt k)) ∧ w'.cell? ⟨W.heap.size, 0, none⟩ = some (.int .i64 key) ∧ w'.cell? ⟨W.heap.size + 1 + 1, 0, none⟩ = some (.slice (some ⟨b2, off2, none⟩) p.length cc) ∧ w'.cell? ⟨s0, 0, none⟩ = some (.int .i64 (i : Nat)) ∧ w'.cell? ⟨s0, 1, none⟩ = some (.int .i64 (k.val : Nat)) ∧ w'.cell? ⟨b2, off2 + i * 6 + k.val * 2, none⟩ = some (.int .i64 (Z.aAt k)) ∧ w'.cell? ⟨b2, off2 + i * 6 + k.val * 2 + 1, none⟩ = some (.int .i64 (Z.bAt k))) 26 5 [1, 2, 1, 2, 1, 1, 2, 1, 2, 1, 2, 1, 2, 0, 0, 0, 2, 1, 2, 1, 2, 1, 1, 2, 0, 0, 0] (by kernel_rfl) (by kernel_rfl) (by exact KS.out _ (by repeat (first | exact B2 | exact B1 | exact bRefl _ | refine bAl ?_ _ | refine bDr ?_))) ?_
        simp only [pickH, pickT]
        (refine wpHeads_cons (v := ?_) (by rfl) ?_ ?_; rotate_left 1; focus (intro w hSw; (try simp only [cond_false] at hSw); go_simp; try with_reducible rfl))
        simp only [Act.put, List.setIfInBounds_toArray, List.set_cons_zero, List.set_cons_succ]
        (refine wpHeads_cons (v := ?_) (by rfl) ?_ ?_; rotate_left 1; focus (intro w hSw; (try simp only [cond_true] at hSw); go_simp; try with_reducible rfl))
        simp only [Act.put, List.setIfInBounds_toArray, List.set_cons_zero, List.set_cons_succ]
        (refine wpHeads_cons (v := ?_) (by rfl) ?_ ?_; rotate_left 1; focus (intro w hSw; (try simp only [cond_false] at hSw); go_simp; try with_reducible rfl))
        simp only [Act.put, List.setIfInBounds_toArray, List.set_cons_zero, List.set_cons_succ]
        (refine wpHeads_cons (v := ?_) (by rfl) ?_ ?_; rotate_left 1; focus (intro w hSw; (try simp only [cond_true] at hSw); go_simp; try with_reducible rfl))
        simp only [Act.put, List.setIfInBounds_toArray, List.set_cons_zero, List.set_cons_succ]
        iterate 2 ((refine wpHeads_cons (v := ?_) (by rfl) ?_ ?_; rotate_left 1; focus (intro w hSw; (try simp only [cond_false] at hSw); go_simp; try with_reducible rfl)); simp only [Act.put, List.setIfInBounds_toArray, List.set_cons_zero, List.set_cons_succ])
        (refine wpHeads_cons (v := ?_) (by rfl) ?_ ?_; rotate_left 1; focus (intro w hSw; (try simp only [cond_true] at hSw); go_simp; try with_reducible rfl))
        simp only [Act.put, List.setIfInBounds_toArray, List.set_cons_zero, List.set_cons_succ]
        (refine wpHeads_cons (v := ?_) (by rfl) ?_ ?_; rotate_left 1; focus (intro w hSw; (try simp only [cond_false] at hSw); go_simp; try with_reducible rfl))
        simp only [Act.put, List.setIfInBounds_toArray, List.set_cons_zero, List.set_cons_succ]
        (refine wpHeads_cons (v := ?_) (by rfl) ?_ ?_; rotate_left 1; focus (intro w hSw; (try simp only [cond_true] at hSw); go_simp; try with_reducible rfl))
        simp only [Act.put, List.setIfInBounds_toArray, List.set_cons_zero, List.set_cons_succ]
        (refine wpHeads_cons (v := ?_) (by rfl) ?_ ?_; rotate_left 1; focus (intro w hSw; (try simp only [cond_false] at hSw); go_simp; try with_reducible rfl))
        simp only [Act.put, List.setIfInBounds_toArray, List.set_cons_zero, List.set_cons_succ]
        (refine wpHeads_cons (v := ?_) (by rfl) ?_ ?_; rotate_left 1; focus (intro w hSw; (try simp only [cond_true] at hSw); go_simp; try with_reducible rfl))
        simp only [Act.put, List.setIfInBounds_toArray, List.set_cons_zero, List.set_cons_succ]
        (refine wpHeads_cons (v := ?_) (by rfl) ?_ ?_; rotate_left 1; focus (intro w hSw; (try simp only [cond_false] at hSw); go_simp; try with_reducible rfl))
        simp only [Act.put, List.setIfInBounds_toArray, List.set_cons_zero, List.set_cons_succ]
        iterate 2 ((refine wpHeads_cons (v := ?_) (by rfl) ?_ ?_; rotate_left 1; focus (intro w hSw; (try simp only [cond_true] at hSw); go_simp; try with_reducible rfl)); simp only [Act.put, List.setIfInBounds_toArray, List.set_cons_zero, List.set_cons_succ])
        (refine wpHeads_cons (v := ?_) (by rfl) ?_ ?_; rotate_left 1; focus (intro w hSw; (try simp only [cond_false] at hSw); go_simp; try with_reducible rfl))
        simp only [Act.put, List.setIfInBounds_toArray, List.set_cons_zero, List.set_cons_succ]
        (refine wpHeads_cons (v := ?_) (by rfl) ?_ ?_; rotate_left 1; focus (intro w hSw; (try simp only [cond_true] at hSw); go_simp; try with_reducible rfl))
        simp only [Act.put, List.setIfInBounds_toArray, List.set_cons_zero, List.set_cons_succ]
        (refine wpHeads_cons (v := ?_) (by rfl) ?_ ?_; rotate_left 1; focus (intro w hSw; (try simp only [cond_false] at hSw); go_simp; try with_reducible rfl))
        simp only [Act.put, List.setIfInBounds_toArray, List.set_cons_zero, List.set_cons_succ]
        (refine wpHeads_cons (v := ?_) (by rfl) ?_ ?_; rotate_left 1; focus (intro w hSw; (try simp only [cond_true] at hSw); go_simp; try with_reducible rfl))
        simp only [Act.put, List.setIfInBounds_toArray, List.set_cons_zero, List.set_cons_succ]
        iterate 2 ((refine wpHeads_cons (v := ?_) (by rfl) ?_ ?_; rotate_left 1; focus (intro w hSw; (try simp only [cond_false] at hSw); go_simp; try with_reducible rfl)); simp only [Act.put, List.setIfInBounds_toArray, List.set_cons_zero, List.set_cons_succ])
        (refine wpHeads_cons (v := ?_) (by rfl) ?_ ?_; rotate_left 1; focus (intro w hSw; (try simp only [cond_true] at hSw); go_simp; try with_reducible rfl))
        simp only [Act.put, List.setIfInBounds_toArray, List.set_cons_zero, List.set_cons_succ]
        refine wpHeads_nil ?_
        iterate 5 (refine wpTailS_cons (fun K hK => ?_); go_simp; (first | (go_at_call 37; (with_reducible refine (q4.out _ (hG.below (hb8.trans (Below.mono (by repeat (first | exact B1 | exact bRefl _ | refine bAl ?_ _ | refine bDr ?_)) hz8)))).mono ?_); rintro e w9 ⟨rfl, b9⟩; have B2 : Below w8.heap.size w8 w9 := bCall (by repeat (first | exact B1 | exact bRefl _ | refine bAl ?_ _ | refine bDr ?_)) b9) | (go_at_call 38; (with_reducible refine (equal_mul2 (X.bAt k) (powV (Y.bAt k) (-1)) _).mono ?_); rintro e w' ⟨rfl, rfl⟩) | (go_at_call 39; (with_reducible refine (equal_pow (Y.bAt k) (-1) _).mono ?_); rintro e w9 ⟨rfl, b9⟩; have B1 : Below w8.heap.size w8 w9 := bCall (by repeat (first | exact bRefl _ | refine bAl ?_ _ | refine bDr ?_)) b9) | skip); refine hK.out _ _ (by exact KS.out _ (by repeat (first | exact B2 | exact B1 | exact bRefl _ | refine bAl ?_ _ | refine bDr ?_))) (fun hHeld => ?_); clear hHeld hK K; try simp only [Act.put, List.setIfInBounds_toArray, List.set_cons_zero, List.set_cons_succ])
        refine wpTailS_zero ?_
        go_wp2_with fail
        refine NoOut.normal ?_
        have h9 := hb8.trans (B2.mono hz8)
        replace b9 := B2
        clear B1 B2 q4 KS
        gi_wp2_with fail
        refine ⟨kO.trans (KeepsOthers.below b9), kK.trans (Keeps.of_below b9 (fun j hj => by omega)), h9, ⟨e1.below b9 e1.lt, e2.below b9 e2.lt, e3.below b9 e3.lt, e4.below b9 e4.lt, e5.below b9 e5.lt, trivial⟩, Lib.hid ?_⟩
        intro z hz
        rcases List.mem_append.1 hz with hz | hz
        · exact hR.out z hz
        · obtain rfl : z = ⟨i, k, hi⟩ := by simpa using hz
          exact hbz'.out
    · have t : (Y.aAt k != X.aAt k) = true := by rw [bne_iff_ne]; exact hne
      have hfalse : Hid (v = false) := by
        show _ = _
        rw [Hv.out]
        exact bareAll_bad H2.out H4.out ⟨i, k, hi⟩ (by rw [HXY.out, decide_eq_false hne]; rfl)
      clear hne
      refine wpIn_region_mask (fun w' => w'.cell? ⟨s1, 0, none⟩ = some (.int .i64 (Y.aAt k)) ∧ w'.cell? ⟨s1, 1, none⟩ = some (.int .i64 (Y.bAt k)) ∧ w'.cell? ⟨s0 + 1, 0, none⟩ = some (.int .i64 (X.aAt k)) ∧ w'.cell? ⟨s0 + 1, 1, none⟩ = some (.int .i64 (X.bAt k)) ∧ w'.cell? ⟨W.heap.size, 0, none⟩ = some (.int .i64 key) ∧ w'.cell? ⟨W.heap.size + 1 + 1, 0, none⟩ = some (.slice (some ⟨b2, off2, none⟩) p.length cc) ∧ w'.cell? ⟨s0, 0, none⟩ = some (.int .i64 (i : Nat)) ∧ w'.cell? ⟨s0, 1, none⟩ = some (.int .i64 (k.val : Nat)) ∧ w'.cell? ⟨b2, off2 + i * 6 + k.val * 2, none⟩ = some (.int .i64 (Z.aAt k)) ∧ w'.cell? ⟨b2, off2 + i * 6 + k.val * 2 + 1, none⟩ = some (.int .i64 (Z.bAt k))) 26 5 [1, 2, 1, 2, 1, 1, 1, 1, 1, 1, 1, 1, 1, 0, 0, 0, 1, 1, 1, 1, 1, 1, 1, 1, 0, 0, 0] (by kernel_rfl) (by kernel_rfl) (by exact KS.out _ (by repeat (first | exact bRefl _ | refine bAl ?_ _ | refine bDr ?_))) ?_
      simp only [pickH, pickT]
      (refine wpHeads_cons (v := ?_) (by rfl) ?_ ?_; rotate_left 1; focus (intro w hSw; (try simp only [cond_false] at hSw); go_simp; try with_reducible rfl))
      simp only [Act.put, List.setIfInBounds_toArray, List.set_cons_zero, List.set_cons_succ]
      (refine wpHeads_cons (v := ?_) (by rfl) ?_ ?_; rotate_left 1; focus (intro w hSw; (try simp only [cond_true] at hSw); go_simp; try with_reducible rfl))
      simp only [Act.put, List.setIfInBounds_toArray, List.set_cons_zero, List.set_cons_succ]
      (refine wpHeads_cons (v := ?_) (by rfl) ?_ ?_; rotate_left 1; focus (intro w hSw; (try simp only [cond_false] at hSw); go_simp; try with_reducible rfl))
      simp only [Act.put, List.setIfInBounds_toArray, List.set_cons_zero, List.set_cons_succ]
      (refine wpHeads_cons (v := ?_) (by rfl) ?_ ?_; rotate_left 1; focus (intro w hSw; (try simp only [cond_true] at hSw); go_simp; try with_reducible rfl))
      simp only [Act.put, List.setIfInBounds_toArray, List.set_cons_zero, List.set_cons_succ]
      iterate 2 ((refine wpHeads_cons (v := ?_) (by rfl) ?_ ?_; rotate_left 1; focus (intro w hSw; (try simp only [cond_false] at hSw); go_simp; try with_reducible rfl)); simp only [Act.put, List.setIfInBounds_toArray, List.set_cons_zero, List.set_cons_succ])
      iterate 15 ((refine wpHeads_pass (by rfl) ?_; try simp only [Act.put, List.setIfInBounds_toArray, List.set_cons_zero, List.set_cons_succ]))
      refine wpHeads_nil ?_
      iterate 5 (refine wpTailS_cons (fun K hK => ?_); go_simp; (first | (fail) | skip); refine hK.out _ _ (by exact KS.out _ (by repeat (first | exact bRefl _ | refine bAl ?_ _ | refine bDr ?_))) (fun hHeld => ?_); clear hHeld hK K; try simp only [Act.put, List.setIfInBounds_toArray, List.set_cons_zero, List.set_cons_succ])
      refine wpTailS_zero ?_
      go_wp2_with fail
      refine NoOut.normal ?_
      obtain ⟨k3, z3⟩ := e4.one_
      gi_wp2_with fail
      exact ⟨kO.trans ((KeepsOthers.setCell _ _ _).trans (KeepsOthers.drew _)), bDr (bSet hb8 (by show W.heap.size ≤ W.heap.size + 1 + 1 + 1; omega) _), ⟨Blk.set1 (w := w8) e4 _, trivial⟩, rfl, hfalse⟩
  case done =>
    rintro D xs Wc hD hall hbc ⟨c1, c2, c3, c4, c5, _⟩ hR hd
    dsimp only at c4
    have Hv2 : Hid (v = true) := by show _ = _; rw [Hv.out]; exact bareAll_ok H2.out H4.out (fun z => hR.out z (hall z))
    clear c1 c2 c3 c5 BK BX BQ BV BP h7
    obtain ⟨k3, z3⟩ := c4.one_
    have hdd : (Wc.setCell ⟨W.heap.size + 1 + 1 + 1, 0, none⟩ (.bool true)).heap[D]? = some (.deferred (some [])) := by
      rw [Below.heap_setCell _ _ _ _ (fun e => ne_mark c4 hd rfl e.symm)]; exact hd
    have hE2 := (c4.set1 (.bool true)).put (o' := .deferred none) hdd rfl
    go_wp2_with fail
    refine leavesM_mark (by simp) hdd ?_
    have e1 := hE2.one_.1
    exact ⟨.bool true, by simp [results, Tryz.results17, go_sem, e1], ret_bool Hv2.out.symm, bPut (bSet hbc (by show W.heap.size ≤ W.heap.size + 1 + 1 + 1; omega) _) hD _⟩
  case stop =>
    rintro D c' pre Wc hD _ hbc ⟨c4, _⟩ ⟨rfl, hfalse⟩ hd
    dsimp only at c4
    clear BK BX BQ BV BP h7
    have hE2 := c4.put (o' := .deferred none) hd rfl
    go_wp2_with fail
    refine leavesM_mark (by simp) hd ?_
    have e1 := hE2.one_.1
    exact ⟨.bool false, by simp [results, Tryz.results17, go_sem, e1], ret_bool hfalse.out.symm, bPut hbc hD _⟩
end Go.Proofs.YthgppaiiapkdjaaGreatDoor

/-
  equal.Prove, of a secret and an element.
-/
namespace Go.Proofs.YthgppaiiapkdjaaGreatDoor
open Go.RowKit

def nonS : ByteArray := ⟨#[101, 113, 117, 97, 108, 32, 110, 111, 110, 99, 101]⟩
def nonH (s a : Int) : Nat := hashV (sb nonS) (encN [.int s, .int a])
def nonV (s a : Int) : Int := if (nonH s a : Int) ≤ 1 then (1 : Int) else (nonH s a : Int)
theorem nonV_rng (s a : Int) : 1 ≤ nonV s a ∧ nonV s a < 1073741789 := by
  have := hashV_lt (sb nonS) (encN [.int s, .int a])
  unfold nonV nonH
  split <;> omega
def provE (s a : Int) : Int := (chalV (powV 4 s) a (powV a s) (powV 4 (nonV s a)) (powV a (nonV s a)) : Nat)
def provS (s a : Int) : Int := (nonV s a + provE s a * s) % 1073741789
theorem provE_rng (s a : Int) : 0 ≤ provE s a ∧ provE s a < 1073741789 := by
  unfold provE chalV
  have := hashV_lt (sb chalS) (encN [.int (powV 4 s), .int a, .int (powV a s), .int (powV 4 (nonV s a)), .int (powV a (nonV s a))])
  omega
theorem inI_of {a : Int} (h1 : 1 ≤ a) (h2 : a < 2147483579) : inI a := ⟨by omega, by omega⟩
theorem powV_inI (a n : Int) : inI (powV a n) := by have := powV_inP a n; unfold inP at this; exact ⟨by omega, by omega⟩
theorem mul_rngQ {a b : Int} (ha : 0 ≤ a) (hb : 0 ≤ b) (ha2 : a < 1073741789) (hb2 : b < 1073741789) : 0 ≤ a * b ∧ a * b ≤ 1152921500000000000 := by
  refine ⟨Int.mul_nonneg ha hb, ?_⟩
  have h : a * b ≤ 1073741788 * 1073741788 := Int.mul_le_mul (by omega) (by omega) hb (by omega)
  omega

set_option maxRecDepth 100000 in
set_option maxHeartbeats 4000000 in
theorem equal_prove (s a : Int) (W : World) (hs : secB s = true) (ha : validB a = true) (hG : ShaG W) :
    Calls Tryz.prog 57 #[.int .i64 s, .int .i64 a] W (Ret (.tuple #[.int .i64 (powV a s), .agg #[.int .i64 (provE s a), .int .i64 (provS s a)], .int .i64 0]) W) := by
  obtain ⟨s1, s2⟩ := secB_rng hs
  obtain ⟨a1, a2⟩ := validB_rng ha
  have Hd : Hid (powV a s = powV a s) := rfl
  obtain ⟨W1, hW1⟩ : ∃ W1, W1 = W.alloc (.cells #[.int .i64 0, .int .i64 0] 101) := ⟨_, rfl⟩
  have h1 : Below W.heap.size W W1 := by rw [hW1]; exact bAl (bRefl W) _
  have B1 : Blk W1 W.heap.size 101 #[.int .i64 0, .int .i64 0] := by rw [hW1]; exact Blk.new _ _ _ _ rfl
  have q1 := el_public s W1
  have e1 : pubV s = powV 4 s := if_pos hs
  have e2 : pubE s = 0 := by unfold pubE; rw [if_pos hs]; unfold powE; rw [if_pos valid_four]
  rw [e1, e2] at q1
  have Ha : Hid (powE a = 0) := by show _ = _; unfold powE; rw [if_pos ha]
  clear e1 e2 hs ha Hd
  go_enter Tryz.func57, Tryz.ntmps57
  go_upto_region 1 with fail
  rw [← hW1]
  clear hW1
  go_wp2_with fail
  (with_reducible refine q1.mono ?_)
  rintro e w2 ⟨rfl, b2⟩
  clear q1
  replace B1 := B1.below b2 B1.lt
  replace h1 := bCall h1 b2
  clear b2
  have q2 := group_pow a s w2
  rw [Ha.out] at q2
  go_wp2_with fail
  (with_reducible refine q2.mono ?_)
  rintro e w3 ⟨rfl, b3⟩
  clear q2
  replace B1 := B1.below b3 B1.lt
  replace h1 := bCall h1 b3
  clear b3
  go_wp2_with fail
  refine (equal_text _ 2 2 [s, a] _ (by exact Rd.new w3 (ints [s, a]) _ 1 2 _ rfl rfl) (by
    intro x hx
    simp only [List.mem_cons, List.not_mem_nil, or_false] at hx
    rcases hx with rfl | rfl
    · exact ⟨by omega, by omega⟩
    · exact ⟨by omega, by omega⟩) (by omega)).mono ?_
  rintro e w4 ⟨v, rfl, b4, A2, c2, rfl, hR, _, _, hnil⟩
  replace b4 := bCall (bAl (bRefl w3) _) b4
  replace B1 := B1.below b4 B1.lt
  replace h1 := bCall h1 b4
  clear b4
  have hl := encN_len (l := [.int s, .int a]) (by
    intro x hx
    simp only [List.mem_cons, List.not_mem_nil, or_false] at hx
    rcases hx with rfl | rfl
    · exact ⟨by omega, by omega⟩
    · exact ⟨by omega, by omega⟩) (by simp)
  have q := hash_any nonS A2 _ c2 _ w4 hR hnil (okB_encN _) (by decide) (Nat.le_trans hl (by decide)) (hG.below h1)
  have q3 : Calls Tryz.prog 77 #[.string ⟨#[101, 113, 117, 97, 108, 32, 110, 111, 110, 99, 101]⟩, .slice A2 (encN [.int s, .int a]).length c2] w4 (Ret (.int .i64 (nonH s a : Nat)) w4) := q
  clear hl hR hnil q
  go_wp2_with fail
  (with_reducible refine q3.mono ?_)
  rintro e w5 ⟨rfl, b5⟩
  clear q3
  replace B1 := B1.below b5 B1.lt
  replace h1 := bCall h1 b5
  clear b5
  have hr := nonV_rng s a
  have hE := provE_rng s a
  have HE : Hid (((chalV (powV 4 s) a (powV a s) (powV 4 (nonV s a)) (powV a (nonV s a)) : Nat) : Int) = provE s a) := rfl
  have HS : Hid ((nonV s a + provE s a * s) % 1073741789 = provS s a) := rfl
  have hv : nonV s a = if (nonH s a : Int) ≤ 1 then (1 : Int) else (nonH s a : Int) := rfl
  have hm := mul_rngQ hE.1 (show 0 ≤ s by omega) hE.2 s2
  generalize provE s a = E at *
  generalize provS s a = S at *
  obtain ⟨m1, m2⟩ := hm
  obtain ⟨E1, E2⟩ := hE
  obtain ⟨hr1, hr2⟩ := hr
  by_cases h : (nonH s a : Int) ≤ 1
  all_goals
    first | rw [if_pos h] at hv | rw [if_neg h] at hv
    rw [hv] at HE HS hr1 hr2
    clear hv
    go_wp2_with fail
    (with_reducible refine (equal_pow 4 _ _).mono ?_)
    rintro e w6 ⟨rfl, b6⟩
    replace B1 := B1.below b6 B1.lt
    replace h1 := bCall h1 b6
    clear b6
    go_wp2_with fail
    (with_reducible refine (equal_pow a _ _).mono ?_)
    rintro e w7 ⟨rfl, b7⟩
    replace B1 := B1.below b7 B1.lt
    replace h1 := bCall h1 b7
    clear b7
    go_wp2_with fail
    (with_reducible refine (challenge_any (powV 4 s) a (powV a s) _ _ _ (powV_inI _ _) (inI_of a1 a2) (powV_inI _ _) (powV_inI _ _) (powV_inI _ _) (hG.below h1)).mono ?_)
    rintro e w8 ⟨rfl, b8⟩
    rw [HE.out]
    replace B1 := B1.below b8 B1.lt
    replace h1 := bCall h1 b8
    clear b8 HE
    obtain ⟨x0, x1⟩ := B1.two
    have z0 := B1.frozen 0
    have z1 := B1.frozen 1
    go_upto_region 10 with fail
    rw [HS.out]
    have B2 : Blk ((w8.setCell ⟨W.heap.size, 0, none⟩ (.int .i64 E)).setCell ⟨W.heap.size, 1, none⟩ (.int .i64 S)) W.heap.size 101 #[.int .i64 E, .int .i64 S] := by simpa using (B1.set_ 0 (.int .i64 E)).set_ 1 (.int .i64 S)
    have h2 := bSet (bSet h1 (p := ⟨W.heap.size, 0, none⟩) (Nat.le_refl _) (.int .i64 E)) (p := ⟨W.heap.size, 1, none⟩) (Nat.le_refl _) (.int .i64 S)
    clear x0 x1 z0 z1 B1 h1 HS
    generalize (w8.setCell ⟨W.heap.size, 0, none⟩ (.int .i64 E)).setCell ⟨W.heap.size, 1, none⟩ (.int .i64 S) = w9 at *
    have KS : Hid (∀ w', Below w9.heap.size w9 w' → _) := Lib.hid (fun w' h => (B2.below h B2.lt).two)
    refine wp_region_mask (fun w' => w'.cell? ⟨W.heap.size, 0, none⟩ = some (.int .i64 E) ∧ w'.cell? ⟨W.heap.size, 1, none⟩ = some (.int .i64 S)) 3 1 [1, 2, 0, 0, 0] (by kernel_rfl) (by kernel_rfl) (by exact KS.out _ (by repeat (first | exact bRefl _ | refine bAl ?_ _ | refine bDr ?_))) ?_
    simp only [pickH, pickT]
    repeat (refine wpHeads_cons (v := ?_) (by rfl) ?_ ?_; rotate_left 1; focus (intro w hSw; (try simp only [cond_true, cond_false] at hSw); go_simp; try with_reducible rfl); try simp only [Act.put, List.setIfInBounds_toArray, List.set_cons_zero, List.set_cons_succ])
    refine wpHeads_nil ?_
    iterate 1 (refine wpTailS_cons (fun K hK => ?_); go_simp; (first | (fail) | skip); refine hK.out _ _ (by exact KS.out _ (by repeat (first | exact bRefl _ | refine bAl ?_ _ | refine bDr ?_))) (fun hHeld => ?_); clear hHeld hK K; try simp only [Act.put, List.setIfInBounds_toArray, List.set_cons_zero, List.set_cons_succ])
    refine wpTailS_zero ?_
    refine wpList_store_row (by rfl) 101 (.tmp 5) (.tmp 53) (by rfl) W.heap.size #[.int .i64 E, .int .i64 S] (by rfl) (by rfl) 101 _ B2 (by kernel_rfl) (by rfl) (by simp [Value.oneCell']) ?_
    have B3 : Blk (w9.drew.setRow W.heap.size #[.int .i64 E, .int .i64 S]) W.heap.size 101 #[.int .i64 E, .int .i64 S] := setRow_heap w9.drew W.heap.size _ _ 101 _ B2
    have h3 := below_setRow (bDr h2) (Nat.le_refl _) #[.int .i64 E, .int .i64 S]
    generalize w9.drew.setRow W.heap.size #[.int .i64 E, .int .i64 S] = w10 at *
    clear B2 h2 KS
    obtain ⟨e0, e1⟩ := B3.two
    go_wp2_with fail
    refine NoPanic.normal ?_
    go_wp2_with fail
    exact bodyPost_ret (v := .tuple #[.int .i64 (powV a s), .agg #[.int .i64 E, .int .i64 S], .int .i64 0]) (by simp [results, Tryz.results57, go_sem, e0, e1]) rfl ⟨rfl, h3⟩
end Go.Proofs.YthgppaiiapkdjaaGreatDoor
