/- reading.line, and rows that grow inside a line. -/
import Derived.Test.YtmbopkcmbiommaaGreatDoorRaz
set_option maxRecDepth 1000000
set_option maxHeartbeats 16000000
namespace Go.Proofs.YtmbopkcmbiommaaGreatDoor
open Go Go.RowKit
theorem rep_line (R base m n gl c : Nat) (o : Nat → Nat) (q : RS) (x : Wld) (last : ByteArray) (W : World) (h : StAt W R base m o q x last) (hm : m ≤ 1000000) (hgl : q.ws.al = some ⟨gl, 0, none⟩) (hc : q.ws.cl_ = c) (hn : x.lines.length = n + 1) :
    Calls Tryz.prog 96 #[.pointer (some ⟨R, 0, none⟩)] W (fun r w' => r = .returned (.pointer (some ⟨gl, n * 6, none⟩)) ∧ Below W.heap.size W w') := by
  have cR : (q.ws.cl x ++ [Value.string last]).toArray[1]? = some (.slice (some ⟨gl, 0, none⟩) (n + 1) c) := by rw [List.getElem?_toArray, ← hgl, ← hn, ← hc]; rfl
  have hnm : n + 1 ≤ m := by rw [← hn]; exact (h.ra.rows 4 _ rfl).2
  have KS : Hid (∀ w', Below W.heap.size W w' → w'.cell? ⟨R, 1, none⟩ = some (.slice (some ⟨gl, 0, none⟩) (n + 1) c)) := Lib.hid (fun w' b => by rw [(h.blk.below b h.blk.lt).cell]; exact cR)
  have hB : Hid (Below W.heap.size W W.drew) := Lib.hid (bDr (bRefl W))
  have hw : IntKind.i64.wrap (n : Int) = (n : Int) := by rw [IntKind.wrap_i64]; omega
  have hlt : (n : Int) < (n : Int) + 1 := by omega
  clear h cR hgl hn hc
  go_enter Tryz.func96, Tryz.ntmps96
  go_upto_region 1 with fail
  refine wp_region_schB (f := 15) KS [(0, 1), (1, 1), (2, 1), (3, 1), (4, 1), (5, 2), (6, 1), (7, 1), (8, 1), (9, 1), (10, 1), (11, 2), (12, 1), (13, 1), (14, 1), (15, 3)] ?_
  simp only [pickS, List.getElem?_cons_zero, List.getElem?_cons_succ]
  refine wpSched_t ?_
  refine wpSched_t ?_
  refine wpSched_t ?_
  refine wpSched_t ?_
  refine wpSched_t ?_
  refine wpSched_r ?_
  refine wpSched_t ?_
  refine wpSched_t ?_
  refine wpSched_t ?_
  refine wpSched_t ?_
  refine wpSched_t ?_
  refine wpSched_r ?_
  refine wpSched_t ?_
  refine wpSched_t ?_
  refine wpSched_t ?_
  refine wpSched_last ?_
  first | simp only [List.map_nil] | simp only [List.map_cons, List.map_nil]
  go_wp2_with fail
  refine NoPanic.normal ?_
  go_wp2_with fail
  go_ret
  exact ⟨rfl, hB.out⟩
theorem lins_at {s : LS} {y : Lin} {i : Nat} (hi : i < 6) : ∀ {ls : List LS} {l : List Lin} {k : Nat}, ls[k]? = some s → l[k]? = some y → (linsCl ls l)[k * 6 + i]? = (s.cl y)[i]?
  | [], _, _, h, _ => by simp at h
  | _ :: _, [], _, _, h => by simp at h
  | s1 :: ls, y1 :: l, 0, h, h' => by
    simp only [List.getElem?_cons_zero, Option.some.injEq] at h h'
    subst h; subst h'
    show (s1.cl y1 ++ linsCl ls l)[0 * 6 + i]? = _
    rw [Nat.zero_mul, Nat.zero_add, List.getElem?_append_left (by simpa [LS.cl] using hi)]
  | s1 :: ls, y1 :: l, k + 1, h, h' => by
    simp only [List.getElem?_cons_succ] at h h'
    show (s1.cl y1 ++ linsCl ls l)[(k + 1) * 6 + i]? = _
    have e : (s1.cl y1).length = 6 := rfl
    rw [List.getElem?_append_right (by omega), e, show (k + 1) * 6 + i - 6 = k * 6 + i by omega]
    exact lins_at hi h h'
theorem lins_set {s s' : LS} {y y' : Lin} {i : Nat} {v : Value} (hi : i < 6) (hv : s'.cl y' = (s.cl y).set i v) : ∀ {ls : List LS} {l : List Lin} {k : Nat}, ls[k]? = some s → l[k]? = some y → linsCl (ls.set k s') (l.set k y') = (linsCl ls l).set (k * 6 + i) v
  | [], _, _, h, _ => by simp at h
  | _ :: _, [], _, _, h => by simp at h
  | s1 :: ls, y1 :: l, 0, h, h' => by
    simp only [List.getElem?_cons_zero, Option.some.injEq] at h h'
    subst h; subst h'
    show s'.cl y' ++ linsCl ls l = (s1.cl y1 ++ linsCl ls l).set (0 * 6 + i) v
    rw [Nat.zero_mul, Nat.zero_add, hv, List.set_append_left _ _ (by simpa [LS.cl] using hi)]
  | s1 :: ls, y1 :: l, k + 1, h, h' => by
    simp only [List.getElem?_cons_succ] at h h'
    show s1.cl y1 ++ linsCl (ls.set k s') (l.set k y') = (s1.cl y1 ++ linsCl ls l).set ((k + 1) * 6 + i) v
    have e : (s1.cl y1).length = 6 := rfl
    rw [List.set_append_right _ _ (by omega), e, show (k + 1) * 6 + i - 6 = k * 6 + i by omega, lins_set hi hv h h']
theorem lastL_set {f : Lin → Lin} {l : List Lin} {n : Nat} {y : Lin} (hn : l.length = n + 1) (hy : l[n]? = some y) : lastL f l = l.set n (f y) := by
  obtain ⟨p, z, rfl⟩ : ∃ p z, l = p ++ [z] := ⟨l.dropLast, l.getLast (by intro e; rw [e] at hn; simp at hn), (List.dropLast_concat_getLast _).symm⟩
  have hp : p.length = n := by simpa using hn
  subst hp
  rw [List.getElem?_append_right (Nat.le_refl _), Nat.sub_self] at hy
  simp at hy
  subst hy
  unfold lastL
  rw [List.reverse_append]
  simp
theorem RowsAt.putIn {w w2 : World} {base m m' t gl i n' : Nat} {o : Nat → Nat} {q q' : RS} {x x' : Wld} {r r4 : Rwn} {v1 : Value} {xs1 : List Value} {cg : Nat} (h : RowsAt w base m o q x) (hr : rowQ q x t = some r) (ht : t ≠ 0) (ht4 : t ≠ 4) (hg : Grew w w2 r.v v1) (hown : w2.ownsRow base r.e r.sz v1 n' xs1)
    (hr4 : rowQ q x 4 = some r4) (hv4 : r4.v = .slice (some ⟨gl, 0, none⟩) r4.n cg) (lq : q'.ls.length = x'.lines.length) (vq : q'.vs.length = x'.orders.length) (hrt : rowQ q' x' t = some ⟨r.e, r.sz, v1, n', xs1⟩) (hn : n' ≤ m') (hm : m ≤ m')
    (hrt4 : rowQ q' x' 4 = some ⟨r4.e, r4.sz, r4.v, r4.n, r4.xs.set i v1⟩) (hrow : ∀ t' r', t' ≠ t → t' ≠ 4 → rowQ q' x' t' = some r' → rowQ q x t' = some r')
    (hrl : ∀ (k : Nat) (s : LS) (y : Lin), q'.ls[k]? = some s → x'.lines[k]? = some y → RdO w o s.a0 y.offs.length (ints y.offs) ∧ RdO w o s.a1 y.legs.length (ints y.legs))
    (hrv : ∀ (k : Nat) (u : Value) (y : Odr), q'.vs[k]? = some u → x'.orders[k]? = some y → ∃ A c, u = .slice A y.ag.length c ∧ RdO w o A y.ag.length (ints y.ag)) :
    RowsAt (w2.setCell ⟨gl, i, none⟩ v1) base m' (updT o w.heap.size t) q' x' := by
  have hO := (h.rows t r hr).1
  obtain ⟨h4, h4m⟩ := h.rows 4 r4 hr4
  have k := KeepT.of_grew hO hg
  have ha := upd_agree o w.heap.size t
  have h4o : r4.v.ownBlock = some gl := by rw [hv4]; rfl
  have ogl : o gl = 4 := h4.tag gl h4o
  have glt : gl < w.heap.size := (h4.own.lt gl h4o).2
  have ogl2 : updT o w.heap.size t gl = 4 := by rw [ha gl glt]; exact ogl
  have k2 := KeepT.of_set (w := w2) ogl2 i v1
  have kk : ∀ {t' : Nat} {r' : Rwn}, t' ≠ t → t' ≠ 4 → rowQ q x t' = some r' → Own (w2.setCell ⟨gl, i, none⟩ v1) base (updT o w.heap.size t) t' r' := fun e1 e2 e => ((h.rows _ _ e).1.keep k e1 ha).keep k2 e2 (fun _ _ => rfl)
  refine ⟨lq, vq, fun t' r' e => ?_, fun k' s y hs hy => ⟨((hrl k' s y hs hy).1.keep k ht ha).keep k2 (by decide) (fun _ _ => rfl), ((hrl k' s y hs hy).2.keep k ht ha).keep k2 (by decide) (fun _ _ => rfl)⟩, fun k' u y hu hy => ?_⟩
  · by_cases et : t' = t
    · subst et
      rw [hrt] at e
      injection e with e
      subst e
      exact ⟨(hO.grew hg hown).keep k2 ht4 (fun _ _ => rfl), hn⟩
    · by_cases e4 : t' = 4
      · subst e4
        rw [hrt4] at e
        injection e with e
        subst e
        have h5 := h4.keep k (fun e => ht4 e.symm) ha
        refine ⟨⟨?_, fun g eg => ?_⟩, Nat.le_trans h4m hm⟩
        · have h6 := h5.own
          rw [hv4] at h6 ⊢
          exact own_set h6 i v1
        · rw [h4o] at eg
          injection eg with eg
          subst eg
          exact ogl2
      · have e5 := hrow t' r' et e4 e
        exact ⟨kk et e4 e5, Nat.le_trans (h.rows _ _ e5).2 hm⟩
  · obtain ⟨A, c, e, hr⟩ := hrv k' u y hu hy
    exact ⟨A, c, e, (hr.keep k ht ha).keep k2 (by decide) (fun _ _ => rfl)⟩
theorem rowQ_rules {q : RS} {x : Wld} {n : Nat} {s : LS} {y : Lin} (hs : q.ls[n]? = some s) (hy : x.lines[n]? = some y) : rowQ q x (10 + 2 * n) = some ⟨59, 3, .slice s.a2 y.rules.length s.c2, y.rules.length, y.rules.flatMap Rl.cl⟩ := by
  unfold rowQ
  rw [if_neg (by omega), if_neg (by omega), if_neg (by omega), if_neg (by omega), if_neg (by omega), if_neg (by omega), if_neg (by omega), if_neg (by omega), if_neg (by omega), show (10 + 2 * n - 10) / 2 = n by omega, hs, hy]
  exact if_pos (by omega)
theorem rowQ_gaps {q : RS} {x : Wld} {n : Nat} {s : LS} {y : Lin} (hs : q.ls[n]? = some s) (hy : x.lines[n]? = some y) : rowQ q x (11 + 2 * n) = some ⟨61, 2, .slice s.a3 y.off.length s.c3, y.off.length, y.off.flatMap Gp.cl⟩ := by
  unfold rowQ
  rw [if_neg (by omega), if_neg (by omega), if_neg (by omega), if_neg (by omega), if_neg (by omega), if_neg (by omega), if_neg (by omega), if_neg (by omega), if_neg (by omega), show (11 + 2 * n - 10) / 2 = n by omega, hs, hy]
  exact if_neg (by omega)
theorem rowQ_set {q : RS} {x : Wld} {n t : Nat} {s' : LS} {y' : Lin} (h4 : t ≠ 4) (h0 : t ≠ 10 + 2 * n) (h1 : t ≠ 11 + 2 * n) : rowQ { q with ls := q.ls.set n s' } { x with lines := x.lines.set n y' } t = rowQ q x t := by
  unfold rowQ
  by_cases h10 : t < 10
  · simp only [h4, h10, if_true, if_false]
  · rw [if_neg (by omega), if_neg (by omega), if_neg (by omega), if_neg (by omega), if_neg (by omega), if_neg (by omega), if_neg (by omega), if_neg (by omega), if_neg h10, if_neg (by omega), if_neg (by omega), if_neg (by omega), if_neg (by omega), if_neg (by omega), if_neg (by omega), if_neg (by omega), if_neg (by omega), if_neg h10]
    have hne : n ≠ (t - 10) / 2 := by omega
    simp only [List.getElem?_set_ne hne]
theorem StAt.putIn {w w2 : World} {R base m t gl i n n' : Nat} {o : Nat → Nat} {q : RS} {x : Wld} {last : ByteArray} {r : Rwn} {v1 : Value} {xs1 : List Value} {s s' : LS} {y y' : Lin} (h : StAt w R base m o q x last) (hs : q.ls[n]? = some s) (hy : x.lines[n]? = some y)
    (ht : t = 10 + 2 * n ∨ t = 11 + 2 * n) (hr : rowQ q x t = some r) (hg : Grew w w2 r.v v1) (hown : w2.ownsRow base r.e r.sz v1 n' xs1) (hgl : q.ws.al = some ⟨gl, 0, none⟩) (hi : i < 6)
    (hv : s'.cl y' = (s.cl y).set i v1) (hrt : rowQ { q with ls := q.ls.set n s' } { x with lines := x.lines.set n y' } t = some ⟨r.e, r.sz, v1, n', xs1⟩) (hn : n' ≤ m + 1)
    (hoth : ∀ t', t' ≠ t → (t' = 10 + 2 * n ∨ t' = 11 + 2 * n) → rowQ { q with ls := q.ls.set n s' } { x with lines := x.lines.set n y' } t' = rowQ q x t')
    (e0 : s'.a0 = s.a0) (e1 : s'.a1 = s.a1) (e2 : y'.offs = y.offs) (e3 : y'.legs = y.legs) : StAt (w2.setCell ⟨gl, n * 6 + i, none⟩ v1) R base (m + 1) (updT o w.heap.size t) { q with ls := q.ls.set n s' } { x with lines := x.lines.set n y' } last := by
  have hO := (h.ra.rows t r hr).1
  have k := KeepT.of_grew hO hg
  have ogl : o gl = 4 := (h.ra.rows 4 _ rfl).1.tag gl (by show (Value.slice q.ws.al x.lines.length q.ws.cl_).ownBlock = _; rw [hgl]; rfl)
  have hne : R ≠ gl := fun e => by have := h.oR; rw [e, ogl] at this; cases this
  have hlen : (x.lines.set n y').length = x.lines.length := List.length_set ..
  refine ⟨?_, by rw [upd_agree o _ t R h.blk.lt]; exact h.oR, h.bR, h.sd, h.so, h.ra.putIn (r4 := ⟨56, 6, .slice q.ws.al x.lines.length q.ws.cl_, x.lines.length, linsCl q.ls x.lines⟩) (cg := q.ws.cl_) hr (by omega) (by omega) hg hown rfl (by rw [hgl]) (by simp [h.ra.lq]) h.ra.vq hrt hn (Nat.le_succ m) ?_ ?_ ?_ h.ra.rv⟩
  · have := (k.blk h.blk (by rw [h.oR]; omega)).far (p := ⟨gl, n * 6 + i, none⟩) hne v1
    have e : q.ws.cl { x with lines := x.lines.set n y' } = q.ws.cl x := by unfold WS.cl; simp only [hlen]
    rw [e]
    exact this
  · show some _ = some _
    simp only [hlen, lins_set hi hv hs hy]
  · intro t' r' h1 h2 e
    by_cases h3 : t' = 10 + 2 * n ∨ t' = 11 + 2 * n
    · rw [← hoth t' h1 h3]; exact e
    · rw [rowQ_set h2 (fun e => h3 (.inl e)) (fun e => h3 (.inr e))] at e
      exact e
  · intro k' s1 y1 hs1 hy1
    simp only [List.getElem?_set] at hs1 hy1
    by_cases hk : n = k'
    · subst hk
      rw [if_pos rfl] at hs1 hy1
      split at hs1
      · split at hy1
        · injection hs1 with hs1; injection hy1 with hy1
          subst hs1; subst hy1
          rw [e0, e1, e2, e3]
          exact h.ra.rl n s y hs hy
        · cases hy1
      · cases hs1
    · rw [if_neg hk] at hs1 hy1
      exact h.ra.rl k' s1 y1 hs1 hy1
theorem rule_end {w w2 : World} {R base m gl n g1 c1 : Nat} {o : Nat → Nat} {q : RS} {x : Wld} {last : ByteArray} {s : LS} {y : Lin} {a0 a1 a2 : Int} (h : StAt w R base m o q x last) (hs : q.ls[n]? = some s) (hy : x.lines[n]? = some y) (hn : x.lines.length = n + 1)
    (hg : Grew w w2 (.slice s.a2 y.rules.length s.c2) (.slice (some ⟨g1, 0, none⟩) (y.rules.length + 1) c1)) (hown : w2.ownsRow base 59 3 (.slice (some ⟨g1, 0, none⟩) (y.rules.length + 1) c1) (y.rules.length + 1) (y.rules.flatMap Rl.cl ++ [.int .i64 a0, .int .i64 a1, .int .i64 a2])) (hgl : q.ws.al = some ⟨gl, 0, none⟩) (hm : y.rules.length ≤ m) :
    StAt (w2.setCell ⟨gl, n * 6 + 4, none⟩ (.slice (some ⟨g1, 0, none⟩) (y.rules.length + 1) c1)) R base (m + 1) (updT o w.heap.size (10 + 2 * n)) { q with ls := q.ls.set n { s with a2 := some ⟨g1, 0, none⟩, c2 := c1 } } (addR x (5, [a0, a1, a2])) last := by
  have hk : n < q.ls.length := by rw [h.ra.lq]; omega
  have e : addR x (5, [a0, a1, a2]) = { x with lines := x.lines.set n { y with rules := y.rules ++ [⟨a0, a1, a2⟩] } } := by
    show { x with lines := lastL _ x.lines } = _
    rw [lastL_set hn hy]
    rfl
  rw [e]
  have hs2 : (q.ls.set n { s with a2 := some ⟨g1, 0, none⟩, c2 := c1 })[n]? = some { s with a2 := some ⟨g1, 0, none⟩, c2 := c1 } := by rw [List.getElem?_set, if_pos rfl, if_pos hk]
  have hy2 : (x.lines.set n { y with rules := y.rules ++ [⟨a0, a1, a2⟩] })[n]? = some { y with rules := y.rules ++ [⟨a0, a1, a2⟩] } := by rw [List.getElem?_set, if_pos rfl, if_pos (by omega)]
  refine h.putIn hs hy (.inl rfl) (rowQ_rules hs hy) hg hown hgl (by decide) ?_ ?_ (Nat.succ_le_succ hm) ?_ rfl rfl rfl rfl
  · unfold LS.cl
    simp
  · rw [rowQ_rules hs2 hy2]
    simp [Rl.cl]
  · intro t' h1 h2
    have h3 : t' = 11 + 2 * n := by omega
    subst h3
    rw [rowQ_gaps hs2 hy2, rowQ_gaps hs hy]
theorem rule_info : (Tryz.prog.info? 59).map (fun i => (i.zero, i.size, i.bytes)) = some (some (.agg #[.int .i64 0, .int .i64 0, .int .i64 0]), 3, 24) := by kernel_rfl
theorem rd_rule (R base m : Nat) (o : Nat → Nat) (q : RS) (x : Wld) (last : ByteArray) (A : Option Addr) (c : Nat) (l : List ByteArray) (W : World) (h : StAt W R base m o q x last) (hne : x.lines ≠ []) (hA : Rd W W.heap.size 1 A l.length (strs l)) (hl : ∀ s ∈ l, s.size ≤ 1000000) (hn : l.length ≤ 1000000) (hm : m ≤ 1000000) (hG : LibG base W) :
    Calls Tryz.prog 95 #[.pointer (some ⟨R, 0, none⟩), .slice A l.length c] W (RdPost (readR x 5 (bys l)) o R base m last W) := by
  have hbs : base ≤ W.heap.size := Nat.le_trans h.bR (Nat.le_of_lt h.blk.lt)
  have q1 := Lib.hid (rep_numbers base A c l 3 W hA hl hn hG hbs)
  obtain ⟨ox, hox⟩ : ∃ ox, Hid (readR x 5 (bys l) = ox) := ⟨_, Lib.hid rfl⟩
  rw [hox.out]
  have h2 : (numsV (bys l) 3 = none ∧ Hid (ox = none)) ∨ ∃ a0 a1 a2, numsV (bys l) 3 = some [a0, a1, a2] ∧ Hid (ox = some (addR x (5, [a0, a1, a2]))) := by
    rcases nums_fix x (bys l) (k := 5) (n := 3) (by decide) (fun _ => rfl) with ⟨e1, e2⟩ | ⟨ns, hns, e1, e2⟩
    · exact .inl ⟨e1, Lib.hid (hox.out.symm.trans e2)⟩
    · match ns, hns with
      | [a0, a1, a2], _ => exact .inr ⟨a0, a1, a2, e1, Lib.hid (hox.out.symm.trans e2)⟩
  clear hox
  obtain ⟨n, hxl⟩ : ∃ n, x.lines.length = n + 1 := ⟨x.lines.length - 1, by have := List.length_pos_iff.2 hne; omega⟩
  obtain ⟨y, hy⟩ : ∃ y, x.lines[n]? = some y := ⟨_, List.getElem?_eq_getElem (by omega)⟩
  obtain ⟨s, hs⟩ : ∃ s, q.ls[n]? = some s := ⟨_, List.getElem?_eq_getElem (by rw [h.ra.lq]; omega)⟩
  have hn0 := (h.ra.rows 4 _ rfl).1.own
  obtain ⟨gl, cg, hgl⟩ := own_two hn0 (by show 0 < x.lines.length; omega)
  injection hgl with hgl _ hcg
  go_enter Tryz.func95, Tryz.ntmps95
  rcases h2 with ⟨e1, e2⟩ | ⟨a0, a1, a2, e1, e2⟩
  · rw [e1] at q1
    clear hgl hcg hxl hs hy
    go_upto_region 1 with (go_at_call 91; (with_reducible refine q1.out.mono ?_); rintro e w2 ⟨h9, b2⟩; (simp only at h9; unfold PanW at h9; subst h9))
    exact ⟨rfl, RdPost.no e2.out b2 hbs⟩
  · rw [e1] at q1
    have hH : Hid (q.ws.al = some ⟨gl, 0, none⟩ ∧ q.ws.cl_ = cg ∧ x.lines.length = n + 1 ∧ q.ls[n]? = some s ∧ x.lines[n]? = some y) := Lib.hid ⟨hgl, hcg, hxl, hs, hy⟩
    clear hgl hcg hxl hs hy
    go_upto_region 1 with (go_at_call 91; (with_reducible refine q1.out.mono ?_); rintro e w1 ⟨⟨vn, h9, hv⟩, b1⟩; subst h9)
    obtain ⟨g, cap, rfl⟩ := own_two hv (by simp)
    have hv : w1.ownsRow W.heap.size 3 1 (.slice (some ⟨g, 0, none⟩) 3 cap) 3 (ints [a0, a1, a2]) := hv
    obtain ⟨-, hg0, cur, BG, -, -, -, htk⟩ := OwnAt.parts hv
    have h1 := h.later b1 (upd_agree o W.heap.size 0) (Nat.le_refl m)
    have ogn : updT o W.heap.size 0 g = 0 := if_pos hg0
    have d0 : cur[0]? = some (.int .i64 a0) := by rw [← BG.cell]; exact own_cell hv rfl
    have d1 : cur[1]? = some (.int .i64 a1) := by rw [← BG.cell]; exact own_cell hv rfl
    have d2 : cur[2]? = some (.int .i64 a2) := by rw [← BG.cell]; exact own_cell hv rfl
    have h4 := (h1.ra.rows 4 _ rfl).1
    have h4o : w1.ownsRow base 56 6 (.slice (some ⟨gl, 0, none⟩) x.lines.length cg) x.lines.length (linsCl q.ls x.lines) := by
      have := h4.own
      simp only [hH.out.1, hH.out.2.1] at this
      exact this
    have ogl : updT o W.heap.size 0 gl = 4 := h4.tag gl (by show (Value.slice q.ws.al x.lines.length q.ws.cl_).ownBlock = _; rw [hH.out.1]; rfl)
    obtain ⟨-, hglb, D1, BL, -⟩ := OwnAt.parts h4o
    have dl : D1[n * 6 + 4]? = some (.slice s.a2 y.rules.length s.c2) := by rw [← BL.cell]; exact own_cell h4o (by rw [lins_at (by decide) hH.out.2.2.2.1 hH.out.2.2.2.2]; rfl)
    have hrow : rowQ q x (10 + 2 * n) = some ⟨59, 3, (.slice s.a2 y.rules.length s.c2), y.rules.length, y.rules.flatMap Rl.cl⟩ := rowQ_rules hH.out.2.2.2.1 hH.out.2.2.2.2
    obtain ⟨hO, hOm⟩ := h1.ra.rows _ _ hrow
    have KS : Hid (∀ w', Blk w' gl 56 D1 → Blk w' g 3 cur → w'.cell? ⟨gl, n * 6 + 4, none⟩ = some (.slice s.a2 y.rules.length s.c2) ∧ w'.cell? ⟨g, 0, none⟩ = some (.int .i64 a0) ∧ w'.cell? ⟨g, 1, none⟩ = some (.int .i64 a1) ∧ w'.cell? ⟨g, 2, none⟩ = some (.int .i64 a2)) :=
      Lib.hid (fun w' u1 u2 => ⟨by rw [u1.cell]; exact dl, by rw [u2.cell]; exact d0, by rw [u2.cell]; exact d1, by rw [u2.cell]; exact d2⟩)
    have qL : Hid (∀ w', Below w1.heap.size w1 w' → Calls Tryz.prog 96 #[.pointer (some ⟨R, 0, none⟩)] w' (fun r w'' => r = .returned (.pointer (some ⟨gl, n * 6, none⟩)) ∧ Below w'.heap.size w' w'')) :=
      Lib.hid (fun w' b => rep_line R base m n gl cg _ q x last w' (h1.later b (fun _ _ => rfl) (Nat.le_refl m)) hm hH.out.1 hH.out.2.1 hH.out.2.2.1)
    have hone : Hid (∀ u ∈ ([Value.int .i64 a0, Value.int .i64 a1, Value.int .i64 a2] : List Value), u.oneCell' = true) := Lib.hid (by intro u hu; simp at hu; rcases hu with rfl | rfl | rfl <;> rfl)
    have h63 : y.rules.length + 1 ≤ maxLen := by simp only at hOm; unfold maxLen; omega
    have hby : (y.rules.length + 1) * 24 ≤ 140737488355328 := by simp only at hOm; omega
    have B0 : Below w1.heap.size w1 w1.drew := bDr (bRefl w1)
    have BL0 : Blk w1.drew gl 56 D1 := BL
    have BG0 : Blk w1.drew g 3 cur := BG
    have hbw : base ≤ w1.heap.size := Nat.le_trans hbs b1.size
    clear d0 d1 d2 dl htk hg0 h4 h4o
    refine wp_region_schU (fun w' => w'.cell? ⟨gl, n * 6 + 4, none⟩ = some (.slice s.a2 y.rules.length s.c2) ∧ w'.cell? ⟨g, 0, none⟩ = some (.int .i64 a0) ∧ w'.cell? ⟨g, 1, none⟩ = some (.int .i64 a1) ∧ w'.cell? ⟨g, 2, none⟩ = some (.int .i64 a2)) 21 10 [(0, 1), (2, 1), (7, 1), (8, 1), (9, 2), (10, 1), (11, 1), (12, 2), (13, 1), (14, 1), (15, 2), (16, 1)] (KS.out _ BL0 BG0) ?_
    simp only [pickS, List.getElem?_cons_zero, List.getElem?_cons_succ]
    refine wpSchedU_t ?_
    refine wpSchedU_t ?_
    refine wpSchedU_t ?_
    refine wpSchedU_t ?_
    refine wpSchedU_r ?_
    refine wpSchedU_t ?_
    refine wpSchedU_t ?_
    refine wpSchedU_r ?_
    refine wpSchedU_t ?_
    refine wpSchedU_t ?_
    refine wpSchedU_r ?_
    refine wpSchedU_t ?_
    refine anyU_two (i := 1) (j := 17) ⟨_, rfl, fun K hK => ?_⟩ ⟨_, rfl, fun K hK => ?_⟩
    · go_simp
      go_at_call 96
      (with_reducible refine (qL.out _ B0).mono ?_)
      rintro e w11 ⟨rfl, b11⟩
      have B1 := bCall B0 b11
      have BL1 := BL.below B1 BL.lt
      have BG1 := BG.below B1 BG.lt
      refine shut_goK hK KS ?_
      clear hK K
      refine anyU_two (i := 3) (j := 17) ⟨_, rfl, fun K hK => ?_⟩ ⟨_, rfl, fun K hK => ?_⟩
      · go_simp
        go_at_call 96
        (with_reducible refine (qL.out _ B1).mono ?_)
        rintro e w12 ⟨rfl, b12⟩
        have B2 := bCall B1 b12
        have BL2 := BL.below B2 BL.lt
        have BG2 := BG.below B2 BG.lt
        refine shut_goK hK KS ?_
        clear hK K
        refine anyU_rest (g := 1) [(4, 1), (5, 1), (6, 2), (17, 0), (18, 0), (19, 1), (20, 1)] (by intro _; exact KS.out _ BL2 BG2) ?_
        simp only [pickS, List.getElem?_cons_zero, List.getElem?_cons_succ]
        refine wpSchedU_t ?_
        refine wpSchedU_t ?_
        refine wpSchedU_r ?_
        refine wpSchedU_force (fun K hK => ?_)
        go_simp
        have B3 : Below w1.heap.size w1 (w12.alloc (.cells #[.int .i64 a0, .int .i64 a1, .int .i64 a2] 59)) := bAl B2 _
        have BL3 : Blk (w12.alloc (.cells #[.int .i64 a0, .int .i64 a1, .int .i64 a2] 59)) gl 56 D1 := BL.below B3 BL.lt
        have BG3 : Blk (w12.alloc (.cells #[.int .i64 a0, .int .i64 a1, .int .i64 a2] 59)) g 3 cur := BG.below B3 BG.lt
        have hRd3 : Rd (w12.alloc (.cells #[.int .i64 a0, .int .i64 a1, .int .i64 a2] 59)) (World.heap (w12.alloc (.cells #[.int .i64 a0, .int .i64 a1, .int .i64 a2] 59))).size 3 (some ⟨w12.heap.size, 0, none⟩) 1 [.int .i64 a0, .int .i64 a1, .int .i64 a2] := Rd.new w12 [.int .i64 a0, .int .i64 a1, .int .i64 a2] 59 3 1 _ rfl rfl
        refine shut_goK hK KS ?_
        clear hK K
        refine wpSchedU_force (fun K hK => ?_)
        have hOc := (hO.keep (KeepT.of_below B3 _ 9) (by omega) (fun _ _ => rfl)).own
        refine step_appendG (.tmp 13) (.tmp 24) 53 base 59 (.agg #[.int .i64 0, .int .i64 0, .int .i64 0]) 3 24 (.slice s.a2 y.rules.length s.c2) y.rules.length (y.rules.flatMap Rl.cl) (some ⟨w12.heap.size, 0, none⟩) 1 1 _ [.int .i64 a0, .int .i64 a1, .int .i64 a2] rfl rfl Tryz.underlying53 rule_info rfl (by omega) rfl hOc rfl hRd3 (by intro h; cases h) hone.out h63 hby (Nat.le_trans hbw B3.size) (fun v1 w2 hown2 hg2 => ?_)
        obtain ⟨g1, c1, rfl⟩ := ownsRow_succ hown2
        have hgr := hg2.pre B3
        have kk := KeepT.of_grew hO hgr
        have BL9 := kk.blk BL (by rw [ogl]; omega)
        have BG9 := kk.blk BG (by rw [ogn]; omega)
        refine shut_goK hK KS ?_
        clear hK K
        refine wpSchedU_t ?_
        refine wpSchedU_t ?_
        have c9 : w2.cell? ⟨gl, n * 6 + 4, none⟩ = some (.slice s.a2 y.rules.length s.c2) := (KS.out _ BL9 BG9).1
        have z9 := BL9.frozen (n * 6 + 4)
        have hfin := Lib.hid (rule_end h1 hH.out.2.2.2.1 hH.out.2.2.2.2 hH.out.2.2.1 hgr hown2 hH.out.1 hOm)
        have bw : Below base W (w2.setCell ⟨gl, n * 6 + 4, none⟩ (.slice (some ⟨g1, 0, none⟩) (y.rules.length + 1) c1)) := ((b1.mono hbs).trans (hgr.below hO.own hbw)).setCell (p := ⟨gl, n * 6 + 4, none⟩) hglb (.slice (some ⟨g1, 0, none⟩) (y.rules.length + 1) c1)
        clear KS
        refine anyU_list [(21, 3)] ?_
        simp only [pickS, List.getElem?_cons_zero, List.getElem?_cons_succ, List.map_cons, List.map_nil]
        go_wp2_with fail
        refine NoPanic.normal ?_
        go_end0
        exact RdPost.yes e2.out hfin.out bw (KeepZ.of b1 (upd_agree o W.heap.size 0) kk (by omega) (by omega) (fun g2 _ h2 e2 => by rw [e2, ogl] at h2; omega)) (agree2 b1.size)
      · go_simp
        have B4 : Below w1.heap.size w1 (w11.alloc (.cells #[.int .i64 a0, .int .i64 a1, .int .i64 a2] 59)) := bAl B1 _
        have BL4 : Blk (w11.alloc (.cells #[.int .i64 a0, .int .i64 a1, .int .i64 a2] 59)) gl 56 D1 := BL.below B4 BL.lt
        have BG4 : Blk (w11.alloc (.cells #[.int .i64 a0, .int .i64 a1, .int .i64 a2] 59)) g 3 cur := BG.below B4 BG.lt
        have hRd4 : Rd (w11.alloc (.cells #[.int .i64 a0, .int .i64 a1, .int .i64 a2] 59)) (World.heap (w11.alloc (.cells #[.int .i64 a0, .int .i64 a1, .int .i64 a2] 59))).size 3 (some ⟨w11.heap.size, 0, none⟩) 1 [.int .i64 a0, .int .i64 a1, .int .i64 a2] := Rd.new w11 [.int .i64 a0, .int .i64 a1, .int .i64 a2] 59 3 1 _ rfl rfl
        refine shut_goK hK KS ?_
        clear hK K
        refine anyU_rest (g := 1) [(3, 0), (4, 1), (5, 1), (6, 2), (18, 0), (19, 1), (20, 1)] (by intro _; exact KS.out _ BL4 BG4) ?_
        simp only [pickS, List.getElem?_cons_zero, List.getElem?_cons_succ]
        refine wpSchedU_force (fun K hK => ?_)
        go_simp
        go_at_call 96
        (with_reducible refine (qL.out _ B4).mono ?_)
        rintro e w15 ⟨rfl, b15⟩
        have B5 := bCall B4 b15
        have BL5 := BL.below B5 BL.lt
        have BG5 := BG.below B5 BG.lt
        have hRd5 := (hRd4.below b15).more b15.size
        refine shut_goK hK KS ?_
        clear hK K
        refine wpSchedU_t ?_
        refine wpSchedU_t ?_
        refine wpSchedU_r ?_
        refine wpSchedU_force (fun K hK => ?_)
        have hOc := (hO.keep (KeepT.of_below B5 _ 9) (by omega) (fun _ _ => rfl)).own
        refine step_appendG (.tmp 13) (.tmp 24) 53 base 59 (.agg #[.int .i64 0, .int .i64 0, .int .i64 0]) 3 24 (.slice s.a2 y.rules.length s.c2) y.rules.length (y.rules.flatMap Rl.cl) (some ⟨w11.heap.size, 0, none⟩) 1 1 _ [.int .i64 a0, .int .i64 a1, .int .i64 a2] rfl rfl Tryz.underlying53 rule_info rfl (by omega) rfl hOc rfl hRd5 (by intro h; cases h) hone.out h63 hby (Nat.le_trans hbw B5.size) (fun v1 w2 hown2 hg2 => ?_)
        obtain ⟨g1, c1, rfl⟩ := ownsRow_succ hown2
        have hgr := hg2.pre B5
        have kk := KeepT.of_grew hO hgr
        have BL9 := kk.blk BL (by rw [ogl]; omega)
        have BG9 := kk.blk BG (by rw [ogn]; omega)
        refine shut_goK hK KS ?_
        clear hK K
        refine wpSchedU_t ?_
        refine wpSchedU_t ?_
        have c9 : w2.cell? ⟨gl, n * 6 + 4, none⟩ = some (.slice s.a2 y.rules.length s.c2) := (KS.out _ BL9 BG9).1
        have z9 := BL9.frozen (n * 6 + 4)
        have hfin := Lib.hid (rule_end h1 hH.out.2.2.2.1 hH.out.2.2.2.2 hH.out.2.2.1 hgr hown2 hH.out.1 hOm)
        have bw : Below base W (w2.setCell ⟨gl, n * 6 + 4, none⟩ (.slice (some ⟨g1, 0, none⟩) (y.rules.length + 1) c1)) := ((b1.mono hbs).trans (hgr.below hO.own hbw)).setCell (p := ⟨gl, n * 6 + 4, none⟩) hglb (.slice (some ⟨g1, 0, none⟩) (y.rules.length + 1) c1)
        clear KS
        refine anyU_list [(21, 3)] ?_
        simp only [pickS, List.getElem?_cons_zero, List.getElem?_cons_succ, List.map_cons, List.map_nil]
        go_wp2_with fail
        refine NoPanic.normal ?_
        go_end0
        exact RdPost.yes e2.out hfin.out bw (KeepZ.of b1 (upd_agree o W.heap.size 0) kk (by omega) (by omega) (fun g2 _ h2 e2 => by rw [e2, ogl] at h2; omega)) (agree2 b1.size)
    · go_simp
      have B6 : Below w1.heap.size w1 (w1.alloc (.cells #[.int .i64 a0, .int .i64 a1, .int .i64 a2] 59)).drew := bDr (bAl (bRefl w1) _)
      have BL6 : Blk (w1.alloc (.cells #[.int .i64 a0, .int .i64 a1, .int .i64 a2] 59)).drew gl 56 D1 := BL.below B6 BL.lt
      have BG6 : Blk (w1.alloc (.cells #[.int .i64 a0, .int .i64 a1, .int .i64 a2] 59)).drew g 3 cur := BG.below B6 BG.lt
      have hRd6 : Rd (w1.alloc (.cells #[.int .i64 a0, .int .i64 a1, .int .i64 a2] 59)).drew (World.heap (w1.alloc (.cells #[.int .i64 a0, .int .i64 a1, .int .i64 a2] 59)).drew).size 3 (some ⟨w1.heap.size, 0, none⟩) 1 [.int .i64 a0, .int .i64 a1, .int .i64 a2] := Rd.new w1 [.int .i64 a0, .int .i64 a1, .int .i64 a2] 59 3 1 _ rfl rfl
      refine shut_goK hK KS ?_
      clear hK K
      refine anyU_rest (g := 1) [(1, 0), (3, 0), (4, 1), (5, 1), (6, 2), (18, 0), (19, 1), (20, 1)] (by intro _; exact KS.out _ BL6 BG6) ?_
      simp only [pickS, List.getElem?_cons_zero, List.getElem?_cons_succ]
      refine wpSchedU_force (fun K hK => ?_)
      go_simp
      go_at_call 96
      (with_reducible refine (qL.out _ B6).mono ?_)
      rintro e w17 ⟨rfl, b17⟩
      have B7 := bCall B6 b17
      have BL7 := BL.below B7 BL.lt
      have BG7 := BG.below B7 BG.lt
      have hRd7 := (hRd6.below b17).more b17.size
      refine shut_goK hK KS ?_
      clear hK K
      refine wpSchedU_force (fun K hK => ?_)
      go_simp
      go_at_call 96
      (with_reducible refine (qL.out _ B7).mono ?_)
      rintro e w18 ⟨rfl, b18⟩
      have B8 := bCall B7 b18
      have BL8 := BL.below B8 BL.lt
      have BG8 := BG.below B8 BG.lt
      have hRd8 := (hRd7.below b18).more b18.size
      refine shut_goK hK KS ?_
      clear hK K
      refine wpSchedU_t ?_
      refine wpSchedU_t ?_
      refine wpSchedU_r ?_
      refine wpSchedU_force (fun K hK => ?_)
      have hOc := (hO.keep (KeepT.of_below B8 _ 9) (by omega) (fun _ _ => rfl)).own
      refine step_appendG (.tmp 13) (.tmp 24) 53 base 59 (.agg #[.int .i64 0, .int .i64 0, .int .i64 0]) 3 24 (.slice s.a2 y.rules.length s.c2) y.rules.length (y.rules.flatMap Rl.cl) (some ⟨w1.heap.size, 0, none⟩) 1 1 _ [.int .i64 a0, .int .i64 a1, .int .i64 a2] rfl rfl Tryz.underlying53 rule_info rfl (by omega) rfl hOc rfl hRd8 (by intro h; cases h) hone.out h63 hby (Nat.le_trans hbw B8.size) (fun v1 w2 hown2 hg2 => ?_)
      obtain ⟨g1, c1, rfl⟩ := ownsRow_succ hown2
      have hgr := hg2.pre B8
      have kk := KeepT.of_grew hO hgr
      have BL9 := kk.blk BL (by rw [ogl]; omega)
      have BG9 := kk.blk BG (by rw [ogn]; omega)
      refine shut_goK hK KS ?_
      clear hK K
      refine wpSchedU_t ?_
      refine wpSchedU_t ?_
      have c9 : w2.cell? ⟨gl, n * 6 + 4, none⟩ = some (.slice s.a2 y.rules.length s.c2) := (KS.out _ BL9 BG9).1
      have z9 := BL9.frozen (n * 6 + 4)
      have hfin := Lib.hid (rule_end h1 hH.out.2.2.2.1 hH.out.2.2.2.2 hH.out.2.2.1 hgr hown2 hH.out.1 hOm)
      have bw : Below base W (w2.setCell ⟨gl, n * 6 + 4, none⟩ (.slice (some ⟨g1, 0, none⟩) (y.rules.length + 1) c1)) := ((b1.mono hbs).trans (hgr.below hO.own hbw)).setCell (p := ⟨gl, n * 6 + 4, none⟩) hglb (.slice (some ⟨g1, 0, none⟩) (y.rules.length + 1) c1)
      clear KS
      refine anyU_list [(21, 3)] ?_
      simp only [pickS, List.getElem?_cons_zero, List.getElem?_cons_succ, List.map_cons, List.map_nil]
      go_wp2_with fail
      refine NoPanic.normal ?_
      go_end0
      exact RdPost.yes e2.out hfin.out bw (KeepZ.of b1 (upd_agree o W.heap.size 0) kk (by omega) (by omega) (fun g2 _ h2 e2 => by rw [e2, ogl] at h2; omega)) (agree2 b1.size)
theorem gap_end {w w2 : World} {R base m gl n g1 c1 : Nat} {o : Nat → Nat} {q : RS} {x : Wld} {last : ByteArray} {s : LS} {y : Lin} {a0 a1 : Int} (h : StAt w R base m o q x last) (hs : q.ls[n]? = some s) (hy : x.lines[n]? = some y) (hn : x.lines.length = n + 1)
    (hg : Grew w w2 (.slice s.a3 y.off.length s.c3) (.slice (some ⟨g1, 0, none⟩) (y.off.length + 1) c1)) (hown : w2.ownsRow base 61 2 (.slice (some ⟨g1, 0, none⟩) (y.off.length + 1) c1) (y.off.length + 1) (y.off.flatMap Gp.cl ++ [.int .i64 a0, .int .i64 a1])) (hgl : q.ws.al = some ⟨gl, 0, none⟩) (hm : y.off.length ≤ m) :
    StAt (w2.setCell ⟨gl, n * 6 + 5, none⟩ (.slice (some ⟨g1, 0, none⟩) (y.off.length + 1) c1)) R base (m + 1) (updT o w.heap.size (11 + 2 * n)) { q with ls := q.ls.set n { s with a3 := some ⟨g1, 0, none⟩, c3 := c1 } } (addR x (6, [a0, a1])) last := by
  have hk : n < q.ls.length := by rw [h.ra.lq]; omega
  have e : addR x (6, [a0, a1]) = { x with lines := x.lines.set n { y with off := y.off ++ [⟨a0, a1⟩] } } := by
    show { x with lines := lastL _ x.lines } = _
    rw [lastL_set hn hy]
    rfl
  rw [e]
  have hs2 : (q.ls.set n { s with a3 := some ⟨g1, 0, none⟩, c3 := c1 })[n]? = some { s with a3 := some ⟨g1, 0, none⟩, c3 := c1 } := by rw [List.getElem?_set, if_pos rfl, if_pos hk]
  have hy2 : (x.lines.set n { y with off := y.off ++ [⟨a0, a1⟩] })[n]? = some { y with off := y.off ++ [⟨a0, a1⟩] } := by rw [List.getElem?_set, if_pos rfl, if_pos (by omega)]
  refine h.putIn hs hy (.inr rfl) (rowQ_gaps hs hy) hg hown hgl (by decide) ?_ ?_ (Nat.succ_le_succ hm) ?_ rfl rfl rfl rfl
  · unfold LS.cl
    simp
  · rw [rowQ_gaps hs2 hy2]
    simp [Gp.cl]
  · intro t' h1 h2
    have h3 : t' = 10 + 2 * n := by omega
    subst h3
    rw [rowQ_rules hs2 hy2, rowQ_rules hs hy]
theorem gap_info : (Tryz.prog.info? 61).map (fun i => (i.zero, i.size, i.bytes)) = some (some (.agg #[.int .i64 0, .int .i64 0]), 2, 16) := by kernel_rfl
theorem rd_gap (R base m : Nat) (o : Nat → Nat) (q : RS) (x : Wld) (last : ByteArray) (A : Option Addr) (c : Nat) (l : List ByteArray) (W : World) (h : StAt W R base m o q x last) (hne : x.lines ≠ []) (hA : Rd W W.heap.size 1 A l.length (strs l)) (hl : ∀ s ∈ l, s.size ≤ 1000000) (hn : l.length ≤ 1000000) (hm : m ≤ 1000000) (hG : LibG base W) :
    Calls Tryz.prog 97 #[.pointer (some ⟨R, 0, none⟩), .slice A l.length c] W (RdPost (readR x 6 (bys l)) o R base m last W) := by
  have hbs : base ≤ W.heap.size := Nat.le_trans h.bR (Nat.le_of_lt h.blk.lt)
  have q1 := Lib.hid (rep_numbers base A c l 2 W hA hl hn hG hbs)
  obtain ⟨ox, hox⟩ : ∃ ox, Hid (readR x 6 (bys l) = ox) := ⟨_, Lib.hid rfl⟩
  rw [hox.out]
  have h2 : (numsV (bys l) 2 = none ∧ Hid (ox = none)) ∨ ∃ a0 a1, numsV (bys l) 2 = some [a0, a1] ∧ Hid (ox = some (addR x (6, [a0, a1]))) := by
    rcases nums_fix x (bys l) (k := 6) (n := 2) (by decide) (fun _ => rfl) with ⟨e1, e2⟩ | ⟨ns, hns, e1, e2⟩
    · exact .inl ⟨e1, Lib.hid (hox.out.symm.trans e2)⟩
    · match ns, hns with
      | [a0, a1], _ => exact .inr ⟨a0, a1, e1, Lib.hid (hox.out.symm.trans e2)⟩
  clear hox
  obtain ⟨n, hxl⟩ : ∃ n, x.lines.length = n + 1 := ⟨x.lines.length - 1, by have := List.length_pos_iff.2 hne; omega⟩
  obtain ⟨y, hy⟩ : ∃ y, x.lines[n]? = some y := ⟨_, List.getElem?_eq_getElem (by omega)⟩
  obtain ⟨s, hs⟩ : ∃ s, q.ls[n]? = some s := ⟨_, List.getElem?_eq_getElem (by rw [h.ra.lq]; omega)⟩
  have hn0 := (h.ra.rows 4 _ rfl).1.own
  obtain ⟨gl, cg, hgl⟩ := own_two hn0 (by show 0 < x.lines.length; omega)
  injection hgl with hgl _ hcg
  go_enter Tryz.func97, Tryz.ntmps97
  rcases h2 with ⟨e1, e2⟩ | ⟨a0, a1, e1, e2⟩
  · rw [e1] at q1
    clear hgl hcg hxl hs hy
    go_upto_region 1 with (go_at_call 91; (with_reducible refine q1.out.mono ?_); rintro e w2 ⟨h9, b2⟩; (simp only at h9; unfold PanW at h9; subst h9))
    exact ⟨rfl, RdPost.no e2.out b2 hbs⟩
  · rw [e1] at q1
    have hH : Hid (q.ws.al = some ⟨gl, 0, none⟩ ∧ q.ws.cl_ = cg ∧ x.lines.length = n + 1 ∧ q.ls[n]? = some s ∧ x.lines[n]? = some y) := Lib.hid ⟨hgl, hcg, hxl, hs, hy⟩
    clear hgl hcg hxl hs hy
    go_upto_region 1 with (go_at_call 91; (with_reducible refine q1.out.mono ?_); rintro e w1 ⟨⟨vn, h9, hv⟩, b1⟩; subst h9)
    obtain ⟨g, cap, rfl⟩ := own_two hv (by simp)
    have hv : w1.ownsRow W.heap.size 3 1 (.slice (some ⟨g, 0, none⟩) 2 cap) 2 (ints [a0, a1]) := hv
    obtain ⟨-, hg0, cur, BG, -, -, -, htk⟩ := OwnAt.parts hv
    have h1 := h.later b1 (upd_agree o W.heap.size 0) (Nat.le_refl m)
    have ogn : updT o W.heap.size 0 g = 0 := if_pos hg0
    have d0 : cur[0]? = some (.int .i64 a0) := by rw [← BG.cell]; exact own_cell hv rfl
    have d1 : cur[1]? = some (.int .i64 a1) := by rw [← BG.cell]; exact own_cell hv rfl
    have h4 := (h1.ra.rows 4 _ rfl).1
    have h4o : w1.ownsRow base 56 6 (.slice (some ⟨gl, 0, none⟩) x.lines.length cg) x.lines.length (linsCl q.ls x.lines) := by
      have := h4.own
      simp only [hH.out.1, hH.out.2.1] at this
      exact this
    have ogl : updT o W.heap.size 0 gl = 4 := h4.tag gl (by show (Value.slice q.ws.al x.lines.length q.ws.cl_).ownBlock = _; rw [hH.out.1]; rfl)
    obtain ⟨-, hglb, D1, BL, -⟩ := OwnAt.parts h4o
    have dl : D1[n * 6 + 5]? = some (.slice s.a3 y.off.length s.c3) := by rw [← BL.cell]; exact own_cell h4o (by rw [lins_at (by decide) hH.out.2.2.2.1 hH.out.2.2.2.2]; rfl)
    have hrow : rowQ q x (11 + 2 * n) = some ⟨61, 2, (.slice s.a3 y.off.length s.c3), y.off.length, y.off.flatMap Gp.cl⟩ := rowQ_gaps hH.out.2.2.2.1 hH.out.2.2.2.2
    obtain ⟨hO, hOm⟩ := h1.ra.rows _ _ hrow
    have KS : Hid (∀ w', Blk w' gl 56 D1 → Blk w' g 3 cur → w'.cell? ⟨gl, n * 6 + 5, none⟩ = some (.slice s.a3 y.off.length s.c3) ∧ w'.cell? ⟨g, 0, none⟩ = some (.int .i64 a0) ∧ w'.cell? ⟨g, 1, none⟩ = some (.int .i64 a1)) :=
      Lib.hid (fun w' u1 u2 => ⟨by rw [u1.cell]; exact dl, by rw [u2.cell]; exact d0, by rw [u2.cell]; exact d1⟩)
    have qL : Hid (∀ w', Below w1.heap.size w1 w' → Calls Tryz.prog 96 #[.pointer (some ⟨R, 0, none⟩)] w' (fun r w'' => r = .returned (.pointer (some ⟨gl, n * 6, none⟩)) ∧ Below w'.heap.size w' w'')) :=
      Lib.hid (fun w' b => rep_line R base m n gl cg _ q x last w' (h1.later b (fun _ _ => rfl) (Nat.le_refl m)) hm hH.out.1 hH.out.2.1 hH.out.2.2.1)
    have hone : Hid (∀ u ∈ ([Value.int .i64 a0, Value.int .i64 a1] : List Value), u.oneCell' = true) := Lib.hid (by intro u hu; simp at hu; rcases hu with rfl | rfl <;> rfl)
    have h63 : y.off.length + 1 ≤ maxLen := by simp only at hOm; unfold maxLen; omega
    have hby : (y.off.length + 1) * 16 ≤ 140737488355328 := by simp only at hOm; omega
    have B0 : Below w1.heap.size w1 w1.drew := bDr (bRefl w1)
    have BL0 : Blk w1.drew gl 56 D1 := BL
    have BG0 : Blk w1.drew g 3 cur := BG
    have hbw : base ≤ w1.heap.size := Nat.le_trans hbs b1.size
    clear d0 d1 dl htk hg0 h4 h4o
    refine wp_region_schU (fun w' => w'.cell? ⟨gl, n * 6 + 5, none⟩ = some (.slice s.a3 y.off.length s.c3) ∧ w'.cell? ⟨g, 0, none⟩ = some (.int .i64 a0) ∧ w'.cell? ⟨g, 1, none⟩ = some (.int .i64 a1)) 18 10 [(0, 1), (2, 1), (7, 1), (8, 1), (9, 2), (10, 1), (11, 1), (12, 2), (13, 1)] (KS.out _ BL0 BG0) ?_
    simp only [pickS, List.getElem?_cons_zero, List.getElem?_cons_succ]
    refine wpSchedU_t ?_
    refine wpSchedU_t ?_
    refine wpSchedU_t ?_
    refine wpSchedU_t ?_
    refine wpSchedU_r ?_
    refine wpSchedU_t ?_
    refine wpSchedU_t ?_
    refine wpSchedU_r ?_
    refine wpSchedU_t ?_
    refine anyU_two (i := 1) (j := 14) ⟨_, rfl, fun K hK => ?_⟩ ⟨_, rfl, fun K hK => ?_⟩
    · go_simp
      go_at_call 96
      (with_reducible refine (qL.out _ B0).mono ?_)
      rintro e w11 ⟨rfl, b11⟩
      have B1 := bCall B0 b11
      have BL1 := BL.below B1 BL.lt
      have BG1 := BG.below B1 BG.lt
      refine shut_goK hK KS ?_
      clear hK K
      refine anyU_two (i := 3) (j := 14) ⟨_, rfl, fun K hK => ?_⟩ ⟨_, rfl, fun K hK => ?_⟩
      · go_simp
        go_at_call 96
        (with_reducible refine (qL.out _ B1).mono ?_)
        rintro e w12 ⟨rfl, b12⟩
        have B2 := bCall B1 b12
        have BL2 := BL.below B2 BL.lt
        have BG2 := BG.below B2 BG.lt
        refine shut_goK hK KS ?_
        clear hK K
        refine anyU_rest (g := 1) [(4, 1), (5, 1), (6, 2), (14, 0), (15, 0), (16, 1), (17, 1)] (by intro _; exact KS.out _ BL2 BG2) ?_
        simp only [pickS, List.getElem?_cons_zero, List.getElem?_cons_succ]
        refine wpSchedU_t ?_
        refine wpSchedU_t ?_
        refine wpSchedU_r ?_
        refine wpSchedU_force (fun K hK => ?_)
        go_simp
        have B3 : Below w1.heap.size w1 (w12.alloc (.cells #[.int .i64 a0, .int .i64 a1] 61)) := bAl B2 _
        have BL3 : Blk (w12.alloc (.cells #[.int .i64 a0, .int .i64 a1] 61)) gl 56 D1 := BL.below B3 BL.lt
        have BG3 : Blk (w12.alloc (.cells #[.int .i64 a0, .int .i64 a1] 61)) g 3 cur := BG.below B3 BG.lt
        have hRd3 : Rd (w12.alloc (.cells #[.int .i64 a0, .int .i64 a1] 61)) (World.heap (w12.alloc (.cells #[.int .i64 a0, .int .i64 a1] 61))).size 2 (some ⟨w12.heap.size, 0, none⟩) 1 [.int .i64 a0, .int .i64 a1] := Rd.new w12 [.int .i64 a0, .int .i64 a1] 61 2 1 _ rfl rfl
        refine shut_goK hK KS ?_
        clear hK K
        refine wpSchedU_force (fun K hK => ?_)
        have hOc := (hO.keep (KeepT.of_below B3 _ 9) (by omega) (fun _ _ => rfl)).own
        refine step_appendG (.tmp 13) (.tmp 21) 54 base 61 (.agg #[.int .i64 0, .int .i64 0]) 2 16 (.slice s.a3 y.off.length s.c3) y.off.length (y.off.flatMap Gp.cl) (some ⟨w12.heap.size, 0, none⟩) 1 1 _ [.int .i64 a0, .int .i64 a1] rfl rfl Tryz.underlying54 gap_info rfl (by omega) rfl hOc rfl hRd3 (by intro h; cases h) hone.out h63 hby (Nat.le_trans hbw B3.size) (fun v1 w2 hown2 hg2 => ?_)
        obtain ⟨g1, c1, rfl⟩ := ownsRow_succ hown2
        have hgr := hg2.pre B3
        have kk := KeepT.of_grew hO hgr
        have BL9 := kk.blk BL (by rw [ogl]; omega)
        have BG9 := kk.blk BG (by rw [ogn]; omega)
        refine shut_goK hK KS ?_
        clear hK K
        refine wpSchedU_t ?_
        refine wpSchedU_t ?_
        have c9 : w2.cell? ⟨gl, n * 6 + 5, none⟩ = some (.slice s.a3 y.off.length s.c3) := (KS.out _ BL9 BG9).1
        have z9 := BL9.frozen (n * 6 + 5)
        have hfin := Lib.hid (gap_end h1 hH.out.2.2.2.1 hH.out.2.2.2.2 hH.out.2.2.1 hgr hown2 hH.out.1 hOm)
        have bw : Below base W (w2.setCell ⟨gl, n * 6 + 5, none⟩ (.slice (some ⟨g1, 0, none⟩) (y.off.length + 1) c1)) := ((b1.mono hbs).trans (hgr.below hO.own hbw)).setCell (p := ⟨gl, n * 6 + 5, none⟩) hglb (.slice (some ⟨g1, 0, none⟩) (y.off.length + 1) c1)
        clear KS
        refine anyU_list [(18, 3)] ?_
        simp only [pickS, List.getElem?_cons_zero, List.getElem?_cons_succ, List.map_cons, List.map_nil]
        go_wp2_with fail
        refine NoPanic.normal ?_
        go_end0
        exact RdPost.yes e2.out hfin.out bw (KeepZ.of b1 (upd_agree o W.heap.size 0) kk (by omega) (by omega) (fun g2 _ h2 e2 => by rw [e2, ogl] at h2; omega)) (agree2 b1.size)
      · go_simp
        have B4 : Below w1.heap.size w1 (w11.alloc (.cells #[.int .i64 a0, .int .i64 a1] 61)) := bAl B1 _
        have BL4 : Blk (w11.alloc (.cells #[.int .i64 a0, .int .i64 a1] 61)) gl 56 D1 := BL.below B4 BL.lt
        have BG4 : Blk (w11.alloc (.cells #[.int .i64 a0, .int .i64 a1] 61)) g 3 cur := BG.below B4 BG.lt
        have hRd4 : Rd (w11.alloc (.cells #[.int .i64 a0, .int .i64 a1] 61)) (World.heap (w11.alloc (.cells #[.int .i64 a0, .int .i64 a1] 61))).size 2 (some ⟨w11.heap.size, 0, none⟩) 1 [.int .i64 a0, .int .i64 a1] := Rd.new w11 [.int .i64 a0, .int .i64 a1] 61 2 1 _ rfl rfl
        refine shut_goK hK KS ?_
        clear hK K
        refine anyU_rest (g := 1) [(3, 0), (4, 1), (5, 1), (6, 2), (15, 0), (16, 1), (17, 1)] (by intro _; exact KS.out _ BL4 BG4) ?_
        simp only [pickS, List.getElem?_cons_zero, List.getElem?_cons_succ]
        refine wpSchedU_force (fun K hK => ?_)
        go_simp
        go_at_call 96
        (with_reducible refine (qL.out _ B4).mono ?_)
        rintro e w15 ⟨rfl, b15⟩
        have B5 := bCall B4 b15
        have BL5 := BL.below B5 BL.lt
        have BG5 := BG.below B5 BG.lt
        have hRd5 := (hRd4.below b15).more b15.size
        refine shut_goK hK KS ?_
        clear hK K
        refine wpSchedU_t ?_
        refine wpSchedU_t ?_
        refine wpSchedU_r ?_
        refine wpSchedU_force (fun K hK => ?_)
        have hOc := (hO.keep (KeepT.of_below B5 _ 9) (by omega) (fun _ _ => rfl)).own
        refine step_appendG (.tmp 13) (.tmp 21) 54 base 61 (.agg #[.int .i64 0, .int .i64 0]) 2 16 (.slice s.a3 y.off.length s.c3) y.off.length (y.off.flatMap Gp.cl) (some ⟨w11.heap.size, 0, none⟩) 1 1 _ [.int .i64 a0, .int .i64 a1] rfl rfl Tryz.underlying54 gap_info rfl (by omega) rfl hOc rfl hRd5 (by intro h; cases h) hone.out h63 hby (Nat.le_trans hbw B5.size) (fun v1 w2 hown2 hg2 => ?_)
        obtain ⟨g1, c1, rfl⟩ := ownsRow_succ hown2
        have hgr := hg2.pre B5
        have kk := KeepT.of_grew hO hgr
        have BL9 := kk.blk BL (by rw [ogl]; omega)
        have BG9 := kk.blk BG (by rw [ogn]; omega)
        refine shut_goK hK KS ?_
        clear hK K
        refine wpSchedU_t ?_
        refine wpSchedU_t ?_
        have c9 : w2.cell? ⟨gl, n * 6 + 5, none⟩ = some (.slice s.a3 y.off.length s.c3) := (KS.out _ BL9 BG9).1
        have z9 := BL9.frozen (n * 6 + 5)
        have hfin := Lib.hid (gap_end h1 hH.out.2.2.2.1 hH.out.2.2.2.2 hH.out.2.2.1 hgr hown2 hH.out.1 hOm)
        have bw : Below base W (w2.setCell ⟨gl, n * 6 + 5, none⟩ (.slice (some ⟨g1, 0, none⟩) (y.off.length + 1) c1)) := ((b1.mono hbs).trans (hgr.below hO.own hbw)).setCell (p := ⟨gl, n * 6 + 5, none⟩) hglb (.slice (some ⟨g1, 0, none⟩) (y.off.length + 1) c1)
        clear KS
        refine anyU_list [(18, 3)] ?_
        simp only [pickS, List.getElem?_cons_zero, List.getElem?_cons_succ, List.map_cons, List.map_nil]
        go_wp2_with fail
        refine NoPanic.normal ?_
        go_end0
        exact RdPost.yes e2.out hfin.out bw (KeepZ.of b1 (upd_agree o W.heap.size 0) kk (by omega) (by omega) (fun g2 _ h2 e2 => by rw [e2, ogl] at h2; omega)) (agree2 b1.size)
    · go_simp
      have B6 : Below w1.heap.size w1 (w1.alloc (.cells #[.int .i64 a0, .int .i64 a1] 61)).drew := bDr (bAl (bRefl w1) _)
      have BL6 : Blk (w1.alloc (.cells #[.int .i64 a0, .int .i64 a1] 61)).drew gl 56 D1 := BL.below B6 BL.lt
      have BG6 : Blk (w1.alloc (.cells #[.int .i64 a0, .int .i64 a1] 61)).drew g 3 cur := BG.below B6 BG.lt
      have hRd6 : Rd (w1.alloc (.cells #[.int .i64 a0, .int .i64 a1] 61)).drew (World.heap (w1.alloc (.cells #[.int .i64 a0, .int .i64 a1] 61)).drew).size 2 (some ⟨w1.heap.size, 0, none⟩) 1 [.int .i64 a0, .int .i64 a1] := Rd.new w1 [.int .i64 a0, .int .i64 a1] 61 2 1 _ rfl rfl
      refine shut_goK hK KS ?_
      clear hK K
      refine anyU_rest (g := 1) [(1, 0), (3, 0), (4, 1), (5, 1), (6, 2), (15, 0), (16, 1), (17, 1)] (by intro _; exact KS.out _ BL6 BG6) ?_
      simp only [pickS, List.getElem?_cons_zero, List.getElem?_cons_succ]
      refine wpSchedU_force (fun K hK => ?_)
      go_simp
      go_at_call 96
      (with_reducible refine (qL.out _ B6).mono ?_)
      rintro e w17 ⟨rfl, b17⟩
      have B7 := bCall B6 b17
      have BL7 := BL.below B7 BL.lt
      have BG7 := BG.below B7 BG.lt
      have hRd7 := (hRd6.below b17).more b17.size
      refine shut_goK hK KS ?_
      clear hK K
      refine wpSchedU_force (fun K hK => ?_)
      go_simp
      go_at_call 96
      (with_reducible refine (qL.out _ B7).mono ?_)
      rintro e w18 ⟨rfl, b18⟩
      have B8 := bCall B7 b18
      have BL8 := BL.below B8 BL.lt
      have BG8 := BG.below B8 BG.lt
      have hRd8 := (hRd7.below b18).more b18.size
      refine shut_goK hK KS ?_
      clear hK K
      refine wpSchedU_t ?_
      refine wpSchedU_t ?_
      refine wpSchedU_r ?_
      refine wpSchedU_force (fun K hK => ?_)
      have hOc := (hO.keep (KeepT.of_below B8 _ 9) (by omega) (fun _ _ => rfl)).own
      refine step_appendG (.tmp 13) (.tmp 21) 54 base 61 (.agg #[.int .i64 0, .int .i64 0]) 2 16 (.slice s.a3 y.off.length s.c3) y.off.length (y.off.flatMap Gp.cl) (some ⟨w1.heap.size, 0, none⟩) 1 1 _ [.int .i64 a0, .int .i64 a1] rfl rfl Tryz.underlying54 gap_info rfl (by omega) rfl hOc rfl hRd8 (by intro h; cases h) hone.out h63 hby (Nat.le_trans hbw B8.size) (fun v1 w2 hown2 hg2 => ?_)
      obtain ⟨g1, c1, rfl⟩ := ownsRow_succ hown2
      have hgr := hg2.pre B8
      have kk := KeepT.of_grew hO hgr
      have BL9 := kk.blk BL (by rw [ogl]; omega)
      have BG9 := kk.blk BG (by rw [ogn]; omega)
      refine shut_goK hK KS ?_
      clear hK K
      refine wpSchedU_t ?_
      refine wpSchedU_t ?_
      have c9 : w2.cell? ⟨gl, n * 6 + 5, none⟩ = some (.slice s.a3 y.off.length s.c3) := (KS.out _ BL9 BG9).1
      have z9 := BL9.frozen (n * 6 + 5)
      have hfin := Lib.hid (gap_end h1 hH.out.2.2.2.1 hH.out.2.2.2.2 hH.out.2.2.1 hgr hown2 hH.out.1 hOm)
      have bw : Below base W (w2.setCell ⟨gl, n * 6 + 5, none⟩ (.slice (some ⟨g1, 0, none⟩) (y.off.length + 1) c1)) := ((b1.mono hbs).trans (hgr.below hO.own hbw)).setCell (p := ⟨gl, n * 6 + 5, none⟩) hglb (.slice (some ⟨g1, 0, none⟩) (y.off.length + 1) c1)
      clear KS
      refine anyU_list [(18, 3)] ?_
      simp only [pickS, List.getElem?_cons_zero, List.getElem?_cons_succ, List.map_cons, List.map_nil]
      go_wp2_with fail
      refine NoPanic.normal ?_
      go_end0
      exact RdPost.yes e2.out hfin.out bw (KeepZ.of b1 (upd_agree o W.heap.size 0) kk (by omega) (by omega) (fun g2 _ h2 e2 => by rw [e2, ogl] at h2; omega)) (agree2 b1.size)
end Go.Proofs.YtmbopkcmbiommaaGreatDoor
