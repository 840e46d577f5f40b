/-
  readers of rows: the schedule's words over two blocks that stay; tiers; walked.
-/
import Derived.Test.YtmbopkcmbiommaaGreatDoorMav
import Derived.Test.YtmbopkcmbiommaaGreatDoorMaj
import Derived.Test.YtmbopkcmbiommaaGreatDoorMap
namespace Go.Proofs.YtmbopkcmbiommaaGreatDoor
open Go Go.RowKit

section
variable {P : Program} {ops : Array Oper} {Q : Exit → Act → World → Prop} {S : World → Prop} {l : List (Nat × Oper)} {a a' : Act} {w : World} {R g : Nat} {T T2 : TypeId} {C D : Array Value}
theorem shut_goK {X : Act → World → Prop} {K : Act → World → Prop} (hK : Shut (∀ a w, S w → (S w → X a w) → K a w)) (KS : Hid (∀ w', Blk w' R T C → Blk w' g T2 D → S w')) (h : X a' w) (ht : a = a' := by (try simp only [Act.put, List.setIfInBounds_toArray, List.set_cons_zero, List.set_cons_succ]) <;> with_reducible rfl)
    (h1 : Blk w R T C := by first | with_reducible assumption | with_reducible exact Blk.alloc (by with_reducible assumption) _) (h2 : Blk w g T2 D := by first | with_reducible assumption | with_reducible exact Blk.alloc (by with_reducible assumption) _) : K a w := by
  subst ht
  exact hK.out _ _ (KS.out _ h1 h2) (fun _ => h)
theorem wp_region_schK {id f : Nat} {l : List Oper} (KS : Hid (∀ w', Blk w' R T C → Blk w' g T2 D → S w')) (s : List (Nat × Nat)) (h : wpSched P l.toArray (NoPanic Q) S (pickS s l) a w.drew)
    (hm : P.follows .mixedOrders = true := by kernel_rfl) (hB : scheduled .any l.toArray f s = true := by kernel_rfl)
    (h1 : Blk w.drew R T C := by with_reducible assumption) (h2 : Blk w.drew g T2 D := by with_reducible assumption) : (Code.region id l.toArray true).wp P Q a w :=
  wp_region_sched S f s hm hB (KS.out _ h1 h2) h
end
theorem numsO_len : ∀ {l : List By} {ns : List Int}, numsO l = some ns → ns.length = l.length
  | [], ns, h => by
    have : ns = [] := by simpa [numsO] using h.symm
    subst this
    rfl
  | s :: l, ns, h => by
    unfold numsO at h
    cases hs : numO s with
    | none => rw [hs] at h; cases h
    | some n =>
      cases hl : numsO l with
      | none => rw [hs, hl] at h; cases h
      | some r =>
        rw [hs, hl] at h
        injection h with h
        subst h
        simp [numsO_len hl]
/-- A row of a kind with so many numbers. -/
theorem nums_fix {k n : Nat} (x : Wld) (l : List By) (hk : k ≠ 1) (hf : ∀ ns : List Int, formR k ns = decide (ns.length = n)) :
    (numsV l (n : Int) = none ∧ readR x k l = none) ∨ ∃ ns, ns.length = n ∧ numsV l (n : Int) = some ns ∧ readR x k l = some (addR x (k, ns)) := by
  unfold readR numsV
  rw [if_neg hk]
  cases hl : numsO l with
  | none => exact .inl ⟨by split <;> rfl, rfl⟩
  | some ns =>
    have e := numsO_len hl
    simp only [hf]
    by_cases h : ns.length = n
    · refine .inr ⟨ns, h, if_neg (by omega), if_pos (decide_eq_true h)⟩
    · exact .inl ⟨if_pos (by omega), if_neg (by simp [h])⟩
/-- Blocks that the readers do not write into stay. -/
def KeepZ (o : Nat → Nat) (R : Nat) (w w' : World) : Prop := (∀ g, g < w.heap.size → g ≠ R → (o g = 0 ∨ o g = 9) → w'.heap[g]? = w.heap[g]?) ∧ KeepsOthers w w'
theorem KeepZ.of {o o1 : Nat → Nat} {w w1 w2 : World} {R t g0 i : Nat} {v : Value} (b : Below w.heap.size w w1) (ha : Agree w.heap.size o o1) (kk : KeepT o1 t w1 w2) (ht : t ≠ 0) (ht9 : t ≠ 9) (hg : ∀ g, g ≠ R → (o1 g = 0 ∨ o1 g = 9) → g ≠ g0) : KeepZ o R w (w2.setCell ⟨g0, i, none⟩ v) := by
  refine ⟨fun g hl hR h0 => ?_, ((others_below b).trans kk.2.2).trans (KeepsOthers.setCell _ _ _)⟩
  have h1 : o1 g = 0 ∨ o1 g = 9 := by rw [ha g hl]; exact h0
  rw [Below.heap_setCell _ _ _ _ (hg g hR h1), kk.2.1 g (Nat.lt_of_lt_of_le hl b.size) (by omega), b.block g hl]
/-- What a reader of rows ends with. -/
def RdPost (ox : Option Wld) (o : Nat → Nat) (R base m : Nat) (last : ByteArray) (w : World) (r : Ending) (w' : World) : Prop :=
  (match ox with | some x' => r = .returned (.tuple #[]) ∧ ∃ o' q', Agree w.heap.size o o' ∧ StAt w' R base (m + 1) o' q' x' last | none => r = PanW) ∧ KeepZ o R w w' ∧ Below base w w'
theorem RdPost.noK {ox : Option Wld} {o : Nat → Nat} {R base m : Nat} {last : ByteArray} {w w' : World} (h : ox = none) (kz : KeepZ o R w w') (b : Below base w w') : RdPost ox o R base m last w PanW w' := by rw [h]; exact ⟨rfl, kz, b⟩
theorem RdPost.no {ox : Option Wld} {o : Nat → Nat} {R base m : Nat} {last : ByteArray} {w w' : World} (h : ox = none) (b : Below w.heap.size w w') (hb : base ≤ w.heap.size) : RdPost ox o R base m last w PanW w' := RdPost.noK h ⟨fun g hg _ _ => b.block g hg, others_below b⟩ (b.mono hb)
theorem RdPost.yes {ox : Option Wld} {o : Nat → Nat} {R base m : Nat} {last : ByteArray} {w w' : World} {x' : Wld} {o' : Nat → Nat} {q' : RS} (h : ox = some x') (hs : StAt w' R base (m + 1) o' q' x' last) (b : Below base w w') (kz : KeepZ o R w w') (ha : Agree w.heap.size o o') : RdPost ox o R base m last w (.returned (.tuple #[])) w' := by rw [h]; exact ⟨⟨rfl, _, _, ha, hs⟩, kz, b⟩
theorem agree2 {o : Nat → Nat} {n n1 t : Nat} (h : n ≤ n1) : Agree n o (updT (updT o n 0) n1 t) := fun g hg => by rw [upd_agree _ n1 t g (Nat.lt_of_lt_of_le hg h), upd_agree o n 0 g hg]
theorem own_two {w : World} {base n sz : Nat} {e : TypeId} {v : Value} {xs : List Value} (h : w.ownsRow base e sz v n xs) (hn : 0 < n) : ∃ g cap, v = .slice (some ⟨g, 0, none⟩) n cap := by
  rcases h.2 with ⟨_, h0⟩ | ⟨g, cap, cur, hv, _⟩
  · omega
  · exact ⟨g, cap, hv⟩
/-- A row has grown, and its slice has been stored. -/
theorem StAt.put {w w2 : World} {R base m t off n' : Nat} {o : Nat → Nat} {q q' : RS} {x x' : Wld} {last : ByteArray} {r : Rwn} {v1 : Value} {xs1 : List Value} (h : StAt w R base m o q x last) (hr : rowQ q x t = some r) (ht : t ≠ 0) (ht9 : t ≠ 9)
    (hg : Grew w w2 r.v v1) (hown : w2.ownsRow base r.e r.sz v1 n' xs1) (lq : q'.ls.length = x'.lines.length) (vq : q'.vs.length = x'.orders.length) (hrt : rowQ q' x' t = some ⟨r.e, r.sz, v1, n', xs1⟩) (hn : n' ≤ m + 1)
    (hrow : ∀ t' r', t' ≠ t → rowQ q' x' t' = some r' → rowQ q x t' = some r' ∨ (r'.n = 0 ∧ r'.v = .slice none 0 0 ∧ r'.xs = []))
    (hrl : ∀ (k : Nat) (s : LS) (y : Lin), q'.ls[k]? = some s → x'.lines[k]? = some y → RdO w o s.a0 y.offs.length (ints y.offs) ∧ RdO w o s.a1 y.legs.length (ints y.legs))
    (hrv : ∀ (k : Nat) (u : Value) (y : Odr), q'.vs[k]? = some u → x'.orders[k]? = some y → ∃ A c, u = .slice A y.ag.length c ∧ RdO w o A y.ag.length (ints y.ag))
    (hs : x'.seed = x.seed) (hc : (q.ws.cl x ++ [Value.string last]).toArray.setIfInBounds off v1 = (q'.ws.cl x' ++ [Value.string last]).toArray) : StAt (w2.setCell ⟨R, off, none⟩ v1) R base (m + 1) (updT o w.heap.size t) q' x' last := by
  have hO := (h.ra.rows t r hr).1
  have k := KeepT.of_grew hO hg
  have hR : updT o w.heap.size t R = 9 := by rw [upd_agree o w.heap.size t R h.blk.lt]; exact h.oR
  have hra := h.ra.put hr ht hg hown lq vq hrt hn (Nat.le_succ m) hrow hrl hrv
  refine ⟨?_, hR, h.bR, by rw [hs]; exact h.sd, by rw [hs]; exact h.so, hra.keep (KeepT.of_set hR off v1) rfl (fun g _ => rfl) (Nat.le_refl _)⟩
  rw [← hc]
  exact (k.blk h.blk (by rw [h.oR]; exact fun e => ht9 e.symm)).set_ off v1
theorem tier_info : (Tryz.prog.info? 63).map (fun i => (i.zero, i.size, i.bytes)) = some (some (.agg #[.int .i64 0, .int .i64 0]), 2, 16) := by kernel_rfl
set_option maxRecDepth 100000 in
set_option maxHeartbeats 4000000 in
theorem rd_tier (R base m : Nat) (o : Nat → Nat) (q : RS) (x : Wld) (last : ByteArray) (A : Option Addr) (c : Nat) (l : List ByteArray) (W : World) (h : StAt W R base m o q x last) (hA : Rd W W.heap.size 1 A l.length (strs l)) (hl : ∀ s ∈ l, s.size ≤ 1000000) (hn : l.length ≤ 1000000) (hm : m ≤ 1000000) (hG : LibG base W) :
    Calls Tryz.prog 93 #[.pointer (some ⟨R, 0, none⟩), .slice A l.length c] W (RdPost (readR x 3 (bys l)) o R base m last W) := by
  have hbs : base ≤ W.heap.size := Nat.le_trans h.bR (Nat.le_of_lt h.blk.lt)
  have q1 := Lib.hid (rep_numbers base A c l 2 W hA hl hn hG hbs)
  obtain ⟨ox, hox⟩ : ∃ ox, Hid (readR x 3 (bys l) = ox) := ⟨_, Lib.hid rfl⟩
  rw [hox.out]
  have h2 : (numsV (bys l) 2 = none ∧ Hid (ox = none)) ∨ ∃ a0 a1, numsV (bys l) 2 = some [a0, a1] ∧ Hid (ox = some (addR x (3, [a0, a1]))) := by
    rcases nums_fix x (bys l) (k := 3) (n := 2) (by decide) (fun _ => rfl) with ⟨e1, e2⟩ | ⟨ns, hns, e1, e2⟩
    · exact .inl ⟨e1, Lib.hid (hox.out.symm.trans e2)⟩
    · match ns, hns with
      | [a0, a1], _ => exact .inr ⟨a0, a1, e1, Lib.hid (hox.out.symm.trans e2)⟩
  clear hox
  go_enter Tryz.func93, Tryz.ntmps93
  rcases h2 with ⟨e1, e2⟩ | ⟨a0, a1, e1, e2⟩
  · rw [e1] at q1
    go_upto_region 1 with (go_at_call 91; (with_reducible refine q1.out.mono ?_); rintro e w2 ⟨h9, b2⟩; (simp only at h9; unfold PanW at h9; subst h9))
    exact ⟨rfl, RdPost.no e2.out b2 hbs⟩
  · rw [e1] at q1
    go_upto_region 1 with (go_at_call 91; (with_reducible refine q1.out.mono ?_); rintro e w1 ⟨⟨vn, h9, hv⟩, b1⟩; subst h9)
    obtain ⟨g, cap, rfl⟩ := own_two hv (by simp)
    have hv : w1.ownsRow W.heap.size 3 1 (.slice (some ⟨g, 0, none⟩) 2 cap) 2 (ints [a0, a1]) := hv
    obtain ⟨-, hg0, cur, hB, -, -, -, htk⟩ := OwnAt.parts hv
    have h1 := h.later b1 (upd_agree o W.heap.size 0) (Nat.le_refl m)
    have ogn : updT o W.heap.size 0 g = 0 := if_pos hg0
    have d0 : cur[0]? = some (.int .i64 a0) := by rw [← hB.cell]; exact own_cell hv rfl
    have d1 : cur[1]? = some (.int .i64 a1) := by rw [← hB.cell]; exact own_cell hv rfl
    have BR := h1.blk
    have hrow : rowQ q x 3 = some ⟨63, 2, .slice q.ws.at_ x.tiers.length q.ws.ct, x.tiers.length, x.tiers.flatMap Tie.cl⟩ := rfl
    obtain ⟨hO, hOm⟩ := h1.ra.rows 3 _ hrow
    have KS : Hid (∀ w', Blk w' R 87 (q.ws.cl x ++ [Value.string last]).toArray → Blk w' g 3 cur → w'.cell? ⟨R, 4, none⟩ = some (.slice q.ws.at_ x.tiers.length q.ws.ct) ∧ w'.cell? ⟨g, 0, none⟩ = some (.int .i64 a0) ∧ w'.cell? ⟨g, 1, none⟩ = some (.int .i64 a1)) :=
      Lib.hid (fun w' u1 u2 => ⟨by rw [u1.cell, List.getElem?_toArray]; rfl, by rw [u2.cell]; exact d0, by rw [u2.cell]; exact d1⟩)
    have BR2 : Blk w1.drew R 87 (q.ws.cl x ++ [Value.string last]).toArray := BR
    have BG2 : Blk w1.drew g 3 cur := hB
    have hO2 : w1.drew.ownsRow base 63 2 (.slice q.ws.at_ x.tiers.length q.ws.ct) x.tiers.length (x.tiers.flatMap Tie.cl) := hO.own
    have BR3 : Blk (w1.alloc (.cells #[.int .i64 a0, .int .i64 a1] 63)).drew R 87 (q.ws.cl x ++ [Value.string last]).toArray := BR.alloc _
    have BG3 : Blk (w1.alloc (.cells #[.int .i64 a0, .int .i64 a1] 63)).drew g 3 cur := hB.alloc _
    have hO3 : (w1.alloc (.cells #[.int .i64 a0, .int .i64 a1] 63)).drew.ownsRow base 63 2 (.slice q.ws.at_ x.tiers.length q.ws.ct) x.tiers.length (x.tiers.flatMap Tie.cl) := hO.own.alloc _
    have hRd : Rd (w1.alloc (.cells #[.int .i64 a0, .int .i64 a1] 63)).drew _ 2 (some ⟨w1.heap.size, 0, none⟩) 1 [.int .i64 a0, .int .i64 a1] := Rd.new w1 [.int .i64 a0, .int .i64 a1] 63 2 1 _ rfl rfl
    have hone : ∀ u ∈ [Value.int .i64 a0, Value.int .i64 a1], u.oneCell' = true := by intro u hu; simp at hu; rcases hu with rfl | rfl <;> rfl
    have h63 : x.tiers.length + 1 ≤ maxLen := by simp only at hOm; unfold maxLen; omega
    have hby : (x.tiers.length + 1) * 16 ≤ 140737488355328 := by simp only at hOm; omega
    have hbs3 : base ≤ (w1.alloc (.cells #[.int .i64 a0, .int .i64 a1] 63)).drew.heap.size := Nat.le_trans (Nat.le_trans hbs b1.size) (bDr (bAl (bRefl w1) _)).size
    refine wp_region_schK (f := 20) KS [(0, 1), (1, 1), (2, 1), (3, 1), (4, 1), (5, 1), (6, 2), (7, 1), (8, 1), (9, 2), (10, 1), (11, 1), (12, 2), (13, 1), (14, 0), (15, 0), (16, 1), (17, 1), (18, 1), (19, 1), (20, 3)] ?_
    simp only [pickS, List.getElem?_cons_zero, List.getElem?_cons_succ]
    refine wpSched_t ?_
    refine wpSched_t ?_
    refine wpSched_t ?_
    refine wpSched_t ?_
    refine wpSched_t ?_
    refine wpSched_t ?_
    refine wpSched_r ?_
    refine wpSched_t ?_
    refine wpSched_t ?_
    refine wpSched_r ?_
    refine wpSched_t ?_
    refine wpSched_t ?_
    refine wpSched_r ?_
    refine wpSched_t ?_
    refine wpSched_force (fun K hK => ?_)
    first | ((refine step_appendG (.tmp 13) (.tmp 21) 26 base 63 (.agg #[.int .i64 0, .int .i64 0]) 2 16 (.slice q.ws.at_ x.tiers.length q.ws.ct) x.tiers.length (x.tiers.flatMap Tie.cl) (some ⟨w1.heap.size, 0, none⟩) 1 1 _ [.int .i64 a0, .int .i64 a1] rfl rfl Tryz.underlying26 tier_info rfl (by omega) rfl hO3 rfl hRd (by intro h; cases h) hone h63 hby hbs3 (fun v1 w2 hown2 hg2 => ?_); obtain ⟨g1, c1, rfl⟩ := ownsRow_succ hown2; have hgr := hg2.pre (bDr (bAl (bRefl w1) _)); have kk := KeepT.of_grew hO hgr; have BR4 := kk.blk BR (by rw [h1.oR]; decide); have BG4 := kk.blk hB (by rw [ogn]; decide))) | (go_simp)
    refine shut_goK hK KS ?_
    clear hK K
    refine wpSched_force (fun K hK => ?_)
    first | ((refine step_appendG (.tmp 13) (.tmp 21) 26 base 63 (.agg #[.int .i64 0, .int .i64 0]) 2 16 (.slice q.ws.at_ x.tiers.length q.ws.ct) x.tiers.length (x.tiers.flatMap Tie.cl) (some ⟨w1.heap.size, 0, none⟩) 1 1 _ [.int .i64 a0, .int .i64 a1] rfl rfl Tryz.underlying26 tier_info rfl (by omega) rfl hO3 rfl hRd (by intro h; cases h) hone h63 hby hbs3 (fun v1 w2 hown2 hg2 => ?_); obtain ⟨g1, c1, rfl⟩ := ownsRow_succ hown2; have hgr := hg2.pre (bDr (bAl (bRefl w1) _)); have kk := KeepT.of_grew hO hgr; have BR4 := kk.blk BR (by rw [h1.oR]; decide); have BG4 := kk.blk hB (by rw [ogn]; decide))) | (go_simp)
    refine shut_goK hK KS ?_
    clear hK K
    refine wpSched_t ?_
    refine wpSched_t ?_
    refine wpSched_t ?_
    refine wpSched_t ?_
    refine wpSched_last ?_
    first | simp only [List.map_nil] | simp only [List.map_cons, List.map_nil]
    have c4 : w2.cell? ⟨R, 4, none⟩ = some (.slice q.ws.at_ x.tiers.length q.ws.ct) := by rw [BR4.cell, List.getElem?_toArray]; rfl
    have f4 := BR4.frozen 4
    have bw : Below base W (w2.setCell ⟨R, 4, none⟩ (.slice (some ⟨g1, 0, none⟩) (x.tiers.length + 1) c1)) := ((b1.mono hbs).trans (hgr.below hO.own (Nat.le_trans hbs b1.size))).setCell (p := ⟨R, 4, none⟩) h.bR _
    have hfin : StAt (w2.setCell ⟨R, 4, none⟩ (.slice (some ⟨g1, 0, none⟩) (x.tiers.length + 1) c1)) R base (m + 1) (updT (updT o W.heap.size 0) w1.heap.size 3) { q with ws := { q.ws with at_ := some ⟨g1, 0, none⟩, ct := c1 } } (addR x (3, [a0, a1])) last := by
      refine h1.put (t := 3) hrow (by decide) (by decide) hgr hown2 h1.ra.lq h1.ra.vq ?_ (Nat.succ_le_succ hOm) ?_ h1.ra.rl h1.ra.rv rfl ?_
      · show some _ = some _
        simp [addR, nat_, Tie.cl]
      · intro t' r' ht hr'
        left
        rw [← hr']
        unfold rowQ
        simp only [ht, if_false]
        rfl
      · rw [List.setIfInBounds_toArray]
        refine congrArg List.toArray ?_
        simp [WS.cl, addR]
    have hfin := Lib.hid hfin
    clear KS
    go_wp2_with fail
    refine NoPanic.normal ?_
    go_end0
    exact RdPost.yes e2.out hfin.out bw (KeepZ.of b1 (upd_agree o W.heap.size 0) kk (by decide) (by decide) (fun _ h _ => h)) (agree2 b1.size)
end Go.Proofs.YtmbopkcmbiommaaGreatDoor

/-
  readers of rows: entries, faults; walked (printed by gen/RrI.py).
-/
namespace Go.Proofs.YtmbopkcmbiommaaGreatDoor
open Go Go.RowKit

theorem ws_split (s : WS) (x : Wld) (last : ByteArray) : s.cl x ++ [Value.string last] = [.int .i64 x.offs, .slice s.al x.lines.length s.cl_, .slice s.ab x.base.length s.cb, .slice s.ag x.leg.length s.cg, .slice s.at_ x.tiers.length s.ct, .slice s.ao x.orders.length s.co, .int .i64 x.people, .slice s.ae x.ents.length s.ce, .int .i64 x.covers, .slice s.as_ x.secs.length s.cs] ++ (byts x.seed ++ [.slice s.af x.faults.length s.cf, .string last]) := by
  unfold WS.cl
  simp
theorem fld42 (s : WS) (x : Wld) (last : ByteArray) (h : x.seed.length = 32) : (s.cl x ++ [Value.string last])[42]? = some (.slice s.af x.faults.length s.cf) := by
  rw [ws_split, List.getElem?_append_right (by simp), List.getElem?_append_right (by simp [byts_length, h])]
  simp [byts_length, h]
theorem set42 (s : WS) (x : Wld) (last : ByteArray) (h : x.seed.length = 32) {v : Value} {s' : WS} {x' : Wld} (hv : s'.cl x' ++ [Value.string last] = [.int .i64 x.offs, .slice s.al x.lines.length s.cl_, .slice s.ab x.base.length s.cb, .slice s.ag x.leg.length s.cg, .slice s.at_ x.tiers.length s.ct, .slice s.ao x.orders.length s.co, .int .i64 x.people, .slice s.ae x.ents.length s.ce, .int .i64 x.covers, .slice s.as_ x.secs.length s.cs] ++ (byts x.seed ++ [v, .string last])) : (s.cl x ++ [Value.string last]).set 42 v = s'.cl x' ++ [Value.string last] := by
  rw [hv, ws_split, List.set_append_right _ _ (by simp), List.set_append_right _ _ (by simp [byts_length, h])]
  simp [byts_length, h]

theorem ent_info : (Tryz.prog.info? 67).map (fun i => (i.zero, i.size, i.bytes)) = some (some (.agg #[.int .i64 0, .int .i64 0, .int .i64 0, .int .i64 0, .int .i64 0, .int .i64 0, .int .i64 0, .int .i64 0]), 8, 64) := by kernel_rfl
set_option maxRecDepth 100000 in
set_option maxHeartbeats 4000000 in
theorem rd_entry (R base m : Nat) (o : Nat → Nat) (q : RS) (x : Wld) (last : ByteArray) (A : Option Addr) (c : Nat) (l : List ByteArray) (W : World) (h : StAt W R base m o q x last) (hA : Rd W W.heap.size 1 A l.length (strs l)) (hl : ∀ s ∈ l, s.size ≤ 1000000) (hn : l.length ≤ 1000000) (hm : m ≤ 1000000) (hG : LibG base W) :
    Calls Tryz.prog 99 #[.pointer (some ⟨R, 0, none⟩), .slice A l.length c] W (RdPost (readR x 8 (bys l)) o R base m last W) := by
  have hbs : base ≤ W.heap.size := Nat.le_trans h.bR (Nat.le_of_lt h.blk.lt)
  have q1 := Lib.hid (rep_numbers base A c l 8 W hA hl hn hG hbs)
  obtain ⟨ox, hox⟩ : ∃ ox, Hid (readR x 8 (bys l) = ox) := ⟨_, Lib.hid rfl⟩
  rw [hox.out]
  have h2 : (numsV (bys l) 8 = none ∧ Hid (ox = none)) ∨ ∃ a0 a1 a2 a3 a4 a5 a6 a7, numsV (bys l) 8 = some [a0, a1, a2, a3, a4, a5, a6, a7] ∧ Hid (ox = some (addR x (8, [a0, a1, a2, a3, a4, a5, a6, a7]))) := by
    rcases nums_fix x (bys l) (k := 8) (n := 8) (by decide) (fun _ => rfl) with ⟨e1, e2⟩ | ⟨ns, hns, e1, e2⟩
    · exact .inl ⟨e1, Lib.hid (hox.out.symm.trans e2)⟩
    · match ns, hns with
      | [a0, a1, a2, a3, a4, a5, a6, a7], _ => exact .inr ⟨a0, a1, a2, a3, a4, a5, a6, a7, e1, Lib.hid (hox.out.symm.trans e2)⟩
  clear hox
  go_enter Tryz.func99, Tryz.ntmps99
  rcases h2 with ⟨e1, e2⟩ | ⟨a0, a1, a2, a3, a4, a5, a6, a7, e1, e2⟩
  · rw [e1] at q1
    go_upto_region 1 with (go_at_call 91; (with_reducible refine q1.out.mono ?_); rintro e w2 ⟨h9, b2⟩; (simp only at h9; unfold PanW at h9; subst h9))
    exact ⟨rfl, RdPost.no e2.out b2 hbs⟩
  · rw [e1] at q1
    go_upto_region 1 with (go_at_call 91; (with_reducible refine q1.out.mono ?_); rintro e w1 ⟨⟨vn, h9, hv⟩, b1⟩; subst h9)
    obtain ⟨g, cap, rfl⟩ := own_two hv (by simp)
    have hv : w1.ownsRow W.heap.size 3 1 (.slice (some ⟨g, 0, none⟩) 8 cap) 8 (ints [a0, a1, a2, a3, a4, a5, a6, a7]) := hv
    obtain ⟨-, hg0, cur, hB, -, -, -, htk⟩ := OwnAt.parts hv
    have h1 := h.later b1 (upd_agree o W.heap.size 0) (Nat.le_refl m)
    have ogn : updT o W.heap.size 0 g = 0 := if_pos hg0
    have d0 : cur[0]? = some (.int .i64 a0) := by rw [← hB.cell]; exact own_cell hv rfl
    have d1 : cur[1]? = some (.int .i64 a1) := by rw [← hB.cell]; exact own_cell hv rfl
    have d2 : cur[2]? = some (.int .i64 a2) := by rw [← hB.cell]; exact own_cell hv rfl
    have d3 : cur[3]? = some (.int .i64 a3) := by rw [← hB.cell]; exact own_cell hv rfl
    have d4 : cur[4]? = some (.int .i64 a4) := by rw [← hB.cell]; exact own_cell hv rfl
    have d5 : cur[5]? = some (.int .i64 a5) := by rw [← hB.cell]; exact own_cell hv rfl
    have d6 : cur[6]? = some (.int .i64 a6) := by rw [← hB.cell]; exact own_cell hv rfl
    have d7 : cur[7]? = some (.int .i64 a7) := by rw [← hB.cell]; exact own_cell hv rfl
    have BR := h1.blk
    have hrow : rowQ q x 6 = some ⟨67, 8, (.slice q.ws.ae x.ents.length q.ws.ce), x.ents.length, x.ents.flatMap Ent.cl⟩ := rfl
    obtain ⟨hO, hOm⟩ := h1.ra.rows 6 _ hrow
    have cR : (q.ws.cl x ++ [Value.string last]).toArray[7]? = some (.slice q.ws.ae x.ents.length q.ws.ce) := by rw [List.getElem?_toArray]; rfl
    have KS : Hid (∀ w', Blk w' R 87 (q.ws.cl x ++ [Value.string last]).toArray → Blk w' g 3 cur → w'.cell? ⟨R, 7, none⟩ = some (.slice q.ws.ae x.ents.length q.ws.ce) ∧ w'.cell? ⟨g, 0, none⟩ = some (.int .i64 a0) ∧ w'.cell? ⟨g, 1, none⟩ = some (.int .i64 a1) ∧ w'.cell? ⟨g, 2, none⟩ = some (.int .i64 a2) ∧ w'.cell? ⟨g, 3, none⟩ = some (.int .i64 a3) ∧ w'.cell? ⟨g, 4, none⟩ = some (.int .i64 a4) ∧ w'.cell? ⟨g, 5, none⟩ = some (.int .i64 a5) ∧ w'.cell? ⟨g, 6, none⟩ = some (.int .i64 a6) ∧ w'.cell? ⟨g, 7, none⟩ = some (.int .i64 a7)) :=
      Lib.hid (fun w' u1 u2 => ⟨by rw [u1.cell]; exact cR, by rw [u2.cell]; exact d0, by rw [u2.cell]; exact d1, by rw [u2.cell]; exact d2, by rw [u2.cell]; exact d3, by rw [u2.cell]; exact d4, by rw [u2.cell]; exact d5, by rw [u2.cell]; exact d6, by rw [u2.cell]; exact d7⟩)
    have BR2 : Blk w1.drew R 87 (q.ws.cl x ++ [Value.string last]).toArray := BR
    have BG2 : Blk w1.drew g 3 cur := hB
    have BR3 : Blk (w1.alloc (.cells #[.int .i64 a0, .int .i64 a1, .int .i64 a2, .int .i64 a3, .int .i64 a4, .int .i64 a5, .int .i64 a6, .int .i64 a7] 67)).drew R 87 (q.ws.cl x ++ [Value.string last]).toArray := BR.alloc _
    have BG3 : Blk (w1.alloc (.cells #[.int .i64 a0, .int .i64 a1, .int .i64 a2, .int .i64 a3, .int .i64 a4, .int .i64 a5, .int .i64 a6, .int .i64 a7] 67)).drew g 3 cur := hB.alloc _
    have hO3 : World.ownsRow (w1.alloc (.cells #[.int .i64 a0, .int .i64 a1, .int .i64 a2, .int .i64 a3, .int .i64 a4, .int .i64 a5, .int .i64 a6, .int .i64 a7] 67)).drew base 67 8 (.slice q.ws.ae x.ents.length q.ws.ce) x.ents.length (x.ents.flatMap Ent.cl) := hO.own.alloc _
    have hRd : Rd (w1.alloc (.cells #[.int .i64 a0, .int .i64 a1, .int .i64 a2, .int .i64 a3, .int .i64 a4, .int .i64 a5, .int .i64 a6, .int .i64 a7] 67)).drew _ 8 (some ⟨w1.heap.size, 0, none⟩) 1 [.int .i64 a0, .int .i64 a1, .int .i64 a2, .int .i64 a3, .int .i64 a4, .int .i64 a5, .int .i64 a6, .int .i64 a7] := Rd.new w1 [.int .i64 a0, .int .i64 a1, .int .i64 a2, .int .i64 a3, .int .i64 a4, .int .i64 a5, .int .i64 a6, .int .i64 a7] 67 8 1 _ rfl rfl
    have hone : ∀ u ∈ [Value.int .i64 a0, Value.int .i64 a1, Value.int .i64 a2, Value.int .i64 a3, Value.int .i64 a4, Value.int .i64 a5, Value.int .i64 a6, Value.int .i64 a7], u.oneCell' = true := by intro u hu; simp at hu; rcases hu with rfl | rfl | rfl | rfl | rfl | rfl | rfl | rfl <;> rfl
    have h63 : x.ents.length + 1 ≤ maxLen := by simp only at hOm; unfold maxLen; omega
    have hby : (x.ents.length + 1) * 64 ≤ 140737488355328 := by simp only at hOm; omega
    have hbs3 : base ≤ (World.heap (w1.alloc (.cells #[.int .i64 a0, .int .i64 a1, .int .i64 a2, .int .i64 a3, .int .i64 a4, .int .i64 a5, .int .i64 a6, .int .i64 a7] 67)).drew).size := Nat.le_trans (Nat.le_trans hbs b1.size) (bDr (bAl (bRefl w1) _)).size
    refine wp_region_schK (f := 36) KS [(0, 1), (1, 1), (2, 1), (3, 1), (4, 1), (5, 2), (6, 1), (7, 1), (8, 2), (9, 1), (10, 1), (11, 2), (12, 1), (13, 1), (14, 2), (15, 1), (16, 1), (17, 2), (18, 1), (19, 1), (20, 2), (21, 1), (22, 1), (23, 2), (24, 1), (25, 1), (26, 2), (27, 1), (28, 1), (29, 2), (30, 1), (31, 0), (32, 0), (33, 1), (34, 1), (35, 1), (36, 3)] ?_
    simp only [pickS, List.getElem?_cons_zero, List.getElem?_cons_succ]
    refine wpSched_t ?_
    refine wpSched_t ?_
    refine wpSched_t ?_
    refine wpSched_t ?_
    refine wpSched_t ?_
    refine wpSched_r ?_
    refine wpSched_t ?_
    refine wpSched_t ?_
    refine wpSched_r ?_
    refine wpSched_t ?_
    refine wpSched_t ?_
    refine wpSched_r ?_
    refine wpSched_t ?_
    refine wpSched_t ?_
    refine wpSched_r ?_
    refine wpSched_t ?_
    refine wpSched_t ?_
    refine wpSched_r ?_
    refine wpSched_t ?_
    refine wpSched_t ?_
    refine wpSched_r ?_
    refine wpSched_t ?_
    refine wpSched_t ?_
    refine wpSched_r ?_
    refine wpSched_t ?_
    refine wpSched_t ?_
    refine wpSched_r ?_
    refine wpSched_t ?_
    refine wpSched_t ?_
    refine wpSched_r ?_
    refine wpSched_t ?_
    refine wpSched_force (fun K hK => ?_)
    first | ((refine step_appendG (.tmp 12) (.tmp 38) 30 base 67 (.agg #[.int .i64 0, .int .i64 0, .int .i64 0, .int .i64 0, .int .i64 0, .int .i64 0, .int .i64 0, .int .i64 0]) 8 64 (.slice q.ws.ae x.ents.length q.ws.ce) x.ents.length (x.ents.flatMap Ent.cl) (some ⟨w1.heap.size, 0, none⟩) 1 1 _ [.int .i64 a0, .int .i64 a1, .int .i64 a2, .int .i64 a3, .int .i64 a4, .int .i64 a5, .int .i64 a6, .int .i64 a7] rfl rfl Tryz.underlying30 ent_info rfl (by omega) rfl hO3 rfl hRd (by intro h; cases h) hone h63 hby hbs3 (fun v1 w2 hown2 hg2 => ?_); obtain ⟨g1, c1, rfl⟩ := ownsRow_succ hown2; have hgr := hg2.pre (bDr (bAl (bRefl w1) _)); have kk := KeepT.of_grew hO hgr; have BR4 := kk.blk BR (by rw [h1.oR]; decide); have BG4 := kk.blk hB (by rw [ogn]; decide))) | (go_simp)
    refine shut_goK hK KS ?_
    clear hK K
    refine wpSched_force (fun K hK => ?_)
    first | ((refine step_appendG (.tmp 12) (.tmp 38) 30 base 67 (.agg #[.int .i64 0, .int .i64 0, .int .i64 0, .int .i64 0, .int .i64 0, .int .i64 0, .int .i64 0, .int .i64 0]) 8 64 (.slice q.ws.ae x.ents.length q.ws.ce) x.ents.length (x.ents.flatMap Ent.cl) (some ⟨w1.heap.size, 0, none⟩) 1 1 _ [.int .i64 a0, .int .i64 a1, .int .i64 a2, .int .i64 a3, .int .i64 a4, .int .i64 a5, .int .i64 a6, .int .i64 a7] rfl rfl Tryz.underlying30 ent_info rfl (by omega) rfl hO3 rfl hRd (by intro h; cases h) hone h63 hby hbs3 (fun v1 w2 hown2 hg2 => ?_); obtain ⟨g1, c1, rfl⟩ := ownsRow_succ hown2; have hgr := hg2.pre (bDr (bAl (bRefl w1) _)); have kk := KeepT.of_grew hO hgr; have BR4 := kk.blk BR (by rw [h1.oR]; decide); have BG4 := kk.blk hB (by rw [ogn]; decide))) | (go_simp)
    refine shut_goK hK KS ?_
    clear hK K
    refine wpSched_t ?_
    refine wpSched_t ?_
    refine wpSched_t ?_
    refine wpSched_last ?_
    first | simp only [List.map_nil] | simp only [List.map_cons, List.map_nil]
    have c4 : w2.cell? ⟨R, 7, none⟩ = some (.slice q.ws.ae x.ents.length q.ws.ce) := by rw [BR4.cell]; exact cR
    have f4 := BR4.frozen 7
    have bw : Below base W (w2.setCell ⟨R, 7, none⟩ (.slice (some ⟨g1, 0, none⟩) (x.ents.length + 1) c1)) := ((b1.mono hbs).trans (hgr.below hO.own (Nat.le_trans hbs b1.size))).setCell (p := ⟨R, 7, none⟩) h.bR _
    have hfin : StAt (w2.setCell ⟨R, 7, none⟩ (.slice (some ⟨g1, 0, none⟩) (x.ents.length + 1) c1)) R base (m + 1) (updT (updT o W.heap.size 0) w1.heap.size 6) { q with ws := { q.ws with ae := some ⟨g1, 0, none⟩, ce := c1 } } (addR x (8, [a0, a1, a2, a3, a4, a5, a6, a7])) last := by
      refine h1.put (t := 6) hrow (by decide) (by decide) hgr hown2 h1.ra.lq h1.ra.vq ?_ (Nat.succ_le_succ hOm) ?_ h1.ra.rl h1.ra.rv rfl ?_
      · show some _ = some _
        simp [addR, nat_, Ent.cl]
      · intro t' r' ht hr'
        left
        rw [← hr']
        unfold rowQ
        simp only [ht, if_false]
        rfl
      · rw [List.setIfInBounds_toArray]
        refine congrArg List.toArray ?_
        simp [WS.cl, addR]
    have hfin := Lib.hid hfin
    clear KS
    go_wp2_with fail
    refine NoPanic.normal ?_
    go_end0
    exact RdPost.yes e2.out hfin.out bw (KeepZ.of b1 (upd_agree o W.heap.size 0) kk (by decide) (by decide) (fun _ h _ => h)) (agree2 b1.size)

theorem slip_info : (Tryz.prog.info? 71).map (fun i => (i.zero, i.size, i.bytes)) = some (some (.agg #[.int .i64 0, .int .i64 0, .int .i64 0, .int .i64 0]), 4, 32) := by kernel_rfl
set_option maxRecDepth 100000 in
set_option maxHeartbeats 4000000 in
theorem rd_fault (R base m : Nat) (o : Nat → Nat) (q : RS) (x : Wld) (last : ByteArray) (A : Option Addr) (c : Nat) (l : List ByteArray) (W : World) (h : StAt W R base m o q x last) (hA : Rd W W.heap.size 1 A l.length (strs l)) (hl : ∀ s ∈ l, s.size ≤ 1000000) (hn : l.length ≤ 1000000) (hm : m ≤ 1000000) (hG : LibG base W) :
    Calls Tryz.prog 101 #[.pointer (some ⟨R, 0, none⟩), .slice A l.length c] W (RdPost (readR x 10 (bys l)) o R base m last W) := by
  have hbs : base ≤ W.heap.size := Nat.le_trans h.bR (Nat.le_of_lt h.blk.lt)
  have q1 := Lib.hid (rep_numbers base A c l 4 W hA hl hn hG hbs)
  obtain ⟨ox, hox⟩ : ∃ ox, Hid (readR x 10 (bys l) = ox) := ⟨_, Lib.hid rfl⟩
  rw [hox.out]
  have h2 : (numsV (bys l) 4 = none ∧ Hid (ox = none)) ∨ ∃ a0 a1 a2 a3, numsV (bys l) 4 = some [a0, a1, a2, a3] ∧ Hid (ox = some (addR x (10, [a0, a1, a2, a3]))) := by
    rcases nums_fix x (bys l) (k := 10) (n := 4) (by decide) (fun _ => rfl) with ⟨e1, e2⟩ | ⟨ns, hns, e1, e2⟩
    · exact .inl ⟨e1, Lib.hid (hox.out.symm.trans e2)⟩
    · match ns, hns with
      | [a0, a1, a2, a3], _ => exact .inr ⟨a0, a1, a2, a3, e1, Lib.hid (hox.out.symm.trans e2)⟩
  clear hox
  go_enter Tryz.func101, Tryz.ntmps101
  rcases h2 with ⟨e1, e2⟩ | ⟨a0, a1, a2, a3, e1, e2⟩
  · rw [e1] at q1
    go_upto_region 1 with (go_at_call 91; (with_reducible refine q1.out.mono ?_); rintro e w2 ⟨h9, b2⟩; (simp only at h9; unfold PanW at h9; subst h9))
    exact ⟨rfl, RdPost.no e2.out b2 hbs⟩
  · rw [e1] at q1
    go_upto_region 1 with (go_at_call 91; (with_reducible refine q1.out.mono ?_); rintro e w1 ⟨⟨vn, h9, hv⟩, b1⟩; subst h9)
    obtain ⟨g, cap, rfl⟩ := own_two hv (by simp)
    have hv : w1.ownsRow W.heap.size 3 1 (.slice (some ⟨g, 0, none⟩) 4 cap) 4 (ints [a0, a1, a2, a3]) := hv
    obtain ⟨-, hg0, cur, hB, -, -, -, htk⟩ := OwnAt.parts hv
    have h1 := h.later b1 (upd_agree o W.heap.size 0) (Nat.le_refl m)
    have ogn : updT o W.heap.size 0 g = 0 := if_pos hg0
    have d0 : cur[0]? = some (.int .i64 a0) := by rw [← hB.cell]; exact own_cell hv rfl
    have d1 : cur[1]? = some (.int .i64 a1) := by rw [← hB.cell]; exact own_cell hv rfl
    have d2 : cur[2]? = some (.int .i64 a2) := by rw [← hB.cell]; exact own_cell hv rfl
    have d3 : cur[3]? = some (.int .i64 a3) := by rw [← hB.cell]; exact own_cell hv rfl
    have BR := h1.blk
    have hrow : rowQ q x 8 = some ⟨71, 4, (.slice q.ws.af x.faults.length q.ws.cf), x.faults.length, x.faults.flatMap Slp.cl⟩ := rfl
    obtain ⟨hO, hOm⟩ := h1.ra.rows 8 _ hrow
    have cR : (q.ws.cl x ++ [Value.string last]).toArray[42]? = some (.slice q.ws.af x.faults.length q.ws.cf) := by rw [List.getElem?_toArray]; exact fld42 q.ws x last h.sd
    have KS : Hid (∀ w', Blk w' R 87 (q.ws.cl x ++ [Value.string last]).toArray → Blk w' g 3 cur → w'.cell? ⟨R, 42, none⟩ = some (.slice q.ws.af x.faults.length q.ws.cf) ∧ w'.cell? ⟨g, 0, none⟩ = some (.int .i64 a0) ∧ w'.cell? ⟨g, 1, none⟩ = some (.int .i64 a1) ∧ w'.cell? ⟨g, 2, none⟩ = some (.int .i64 a2) ∧ w'.cell? ⟨g, 3, none⟩ = some (.int .i64 a3)) :=
      Lib.hid (fun w' u1 u2 => ⟨by rw [u1.cell]; exact cR, by rw [u2.cell]; exact d0, by rw [u2.cell]; exact d1, by rw [u2.cell]; exact d2, by rw [u2.cell]; exact d3⟩)
    have BR2 : Blk w1.drew R 87 (q.ws.cl x ++ [Value.string last]).toArray := BR
    have BG2 : Blk w1.drew g 3 cur := hB
    have BR3 : Blk (w1.alloc (.cells #[.int .i64 a0, .int .i64 a1, .int .i64 a2, .int .i64 a3] 71)).drew R 87 (q.ws.cl x ++ [Value.string last]).toArray := BR.alloc _
    have BG3 : Blk (w1.alloc (.cells #[.int .i64 a0, .int .i64 a1, .int .i64 a2, .int .i64 a3] 71)).drew g 3 cur := hB.alloc _
    have hO3 : World.ownsRow (w1.alloc (.cells #[.int .i64 a0, .int .i64 a1, .int .i64 a2, .int .i64 a3] 71)).drew base 71 4 (.slice q.ws.af x.faults.length q.ws.cf) x.faults.length (x.faults.flatMap Slp.cl) := hO.own.alloc _
    have hRd : Rd (w1.alloc (.cells #[.int .i64 a0, .int .i64 a1, .int .i64 a2, .int .i64 a3] 71)).drew _ 4 (some ⟨w1.heap.size, 0, none⟩) 1 [.int .i64 a0, .int .i64 a1, .int .i64 a2, .int .i64 a3] := Rd.new w1 [.int .i64 a0, .int .i64 a1, .int .i64 a2, .int .i64 a3] 71 4 1 _ rfl rfl
    have hone : ∀ u ∈ [Value.int .i64 a0, Value.int .i64 a1, Value.int .i64 a2, Value.int .i64 a3], u.oneCell' = true := by intro u hu; simp at hu; rcases hu with rfl | rfl | rfl | rfl <;> rfl
    have h63 : x.faults.length + 1 ≤ maxLen := by simp only at hOm; unfold maxLen; omega
    have hby : (x.faults.length + 1) * 32 ≤ 140737488355328 := by simp only at hOm; omega
    have hbs3 : base ≤ (World.heap (w1.alloc (.cells #[.int .i64 a0, .int .i64 a1, .int .i64 a2, .int .i64 a3] 71)).drew).size := Nat.le_trans (Nat.le_trans hbs b1.size) (bDr (bAl (bRefl w1) _)).size
    refine wp_region_schK (f := 25) KS [(0, 1), (1, 1), (2, 1), (3, 1), (4, 1), (5, 2), (6, 1), (7, 1), (8, 2), (9, 1), (10, 1), (11, 2), (12, 1), (13, 1), (14, 2), (15, 1), (16, 1), (17, 2), (18, 1), (19, 1), (20, 0), (21, 0), (22, 1), (23, 1), (24, 1), (25, 3)] ?_
    simp only [pickS, List.getElem?_cons_zero, List.getElem?_cons_succ]
    refine wpSched_t ?_
    refine wpSched_t ?_
    refine wpSched_t ?_
    refine wpSched_t ?_
    refine wpSched_t ?_
    refine wpSched_r ?_
    refine wpSched_t ?_
    refine wpSched_t ?_
    refine wpSched_r ?_
    refine wpSched_t ?_
    refine wpSched_t ?_
    refine wpSched_r ?_
    refine wpSched_t ?_
    refine wpSched_t ?_
    refine wpSched_r ?_
    refine wpSched_t ?_
    refine wpSched_t ?_
    refine wpSched_r ?_
    refine wpSched_t ?_
    refine wpSched_t ?_
    refine wpSched_force (fun K hK => ?_)
    first | ((refine step_appendG (.tmp 12) (.tmp 27) 33 base 71 (.agg #[.int .i64 0, .int .i64 0, .int .i64 0, .int .i64 0]) 4 32 (.slice q.ws.af x.faults.length q.ws.cf) x.faults.length (x.faults.flatMap Slp.cl) (some ⟨w1.heap.size, 0, none⟩) 1 1 _ [.int .i64 a0, .int .i64 a1, .int .i64 a2, .int .i64 a3] rfl rfl Tryz.underlying33 slip_info rfl (by omega) rfl hO3 rfl hRd (by intro h; cases h) hone h63 hby hbs3 (fun v1 w2 hown2 hg2 => ?_); obtain ⟨g1, c1, rfl⟩ := ownsRow_succ hown2; have hgr := hg2.pre (bDr (bAl (bRefl w1) _)); have kk := KeepT.of_grew hO hgr; have BR4 := kk.blk BR (by rw [h1.oR]; decide); have BG4 := kk.blk hB (by rw [ogn]; decide))) | (go_simp)
    refine shut_goK hK KS ?_
    clear hK K
    refine wpSched_force (fun K hK => ?_)
    first | ((refine step_appendG (.tmp 12) (.tmp 27) 33 base 71 (.agg #[.int .i64 0, .int .i64 0, .int .i64 0, .int .i64 0]) 4 32 (.slice q.ws.af x.faults.length q.ws.cf) x.faults.length (x.faults.flatMap Slp.cl) (some ⟨w1.heap.size, 0, none⟩) 1 1 _ [.int .i64 a0, .int .i64 a1, .int .i64 a2, .int .i64 a3] rfl rfl Tryz.underlying33 slip_info rfl (by omega) rfl hO3 rfl hRd (by intro h; cases h) hone h63 hby hbs3 (fun v1 w2 hown2 hg2 => ?_); obtain ⟨g1, c1, rfl⟩ := ownsRow_succ hown2; have hgr := hg2.pre (bDr (bAl (bRefl w1) _)); have kk := KeepT.of_grew hO hgr; have BR4 := kk.blk BR (by rw [h1.oR]; decide); have BG4 := kk.blk hB (by rw [ogn]; decide))) | (go_simp)
    refine shut_goK hK KS ?_
    clear hK K
    refine wpSched_t ?_
    refine wpSched_t ?_
    refine wpSched_t ?_
    refine wpSched_last ?_
    first | simp only [List.map_nil] | simp only [List.map_cons, List.map_nil]
    have c4 : w2.cell? ⟨R, 42, none⟩ = some (.slice q.ws.af x.faults.length q.ws.cf) := by rw [BR4.cell]; exact cR
    have f4 := BR4.frozen 42
    have bw : Below base W (w2.setCell ⟨R, 42, none⟩ (.slice (some ⟨g1, 0, none⟩) (x.faults.length + 1) c1)) := ((b1.mono hbs).trans (hgr.below hO.own (Nat.le_trans hbs b1.size))).setCell (p := ⟨R, 42, none⟩) h.bR _
    have hfin : StAt (w2.setCell ⟨R, 42, none⟩ (.slice (some ⟨g1, 0, none⟩) (x.faults.length + 1) c1)) R base (m + 1) (updT (updT o W.heap.size 0) w1.heap.size 8) { q with ws := { q.ws with af := some ⟨g1, 0, none⟩, cf := c1 } } (addR x (10, [a0, a1, a2, a3])) last := by
      refine h1.put (t := 8) hrow (by decide) (by decide) hgr hown2 h1.ra.lq h1.ra.vq ?_ (Nat.succ_le_succ hOm) ?_ h1.ra.rl h1.ra.rv rfl ?_
      · show some _ = some _
        simp [addR, nat_, Slp.cl]
      · intro t' r' ht hr'
        left
        rw [← hr']
        unfold rowQ
        simp only [ht, if_false]
        rfl
      · rw [List.setIfInBounds_toArray]
        refine congrArg List.toArray ?_
        exact set42 q.ws x last h.sd (by rw [ws_split]; simp [addR])
    have hfin := Lib.hid hfin
    clear KS
    go_wp2_with fail
    refine NoPanic.normal ?_
    go_end0
    exact RdPost.yes e2.out hfin.out bw (KeepZ.of b1 (upd_agree o W.heap.size 0) kk (by decide) (by decide) (fun _ h _ => h)) (agree2 b1.size)

end Go.Proofs.YtmbopkcmbiommaaGreatDoor
