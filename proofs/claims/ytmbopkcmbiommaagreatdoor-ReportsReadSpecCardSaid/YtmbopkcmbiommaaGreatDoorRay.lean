/- the reader of classes: two rows grow, in any order; walked (printed by gen/RrJ.py). -/
import Derived.Test.YtmbopkcmbiommaaGreatDoorRax
import Derived.Test.YtmbopkcmbiommaaGreatDoorRao
set_option maxRecDepth 1000000
set_option maxHeartbeats 16000000
namespace Go.Proofs.YtmbopkcmbiommaaGreatDoor
open Go Go.RowKit
structure Pk (o0 : Nat → Nat) (W w : World) (R base m g : Nat) (C cur : Array Value) (o : Nat → Nat) (q : RS) (x : Wld) : Prop where
  ra : RowsAt w base m o q x
  br : Blk w R 87 C
  bg : Blk w g 3 cur
  oR : o R = 9
  og : o g = 0
  bw : Below base W w
  hb : base ≤ w.heap.size
  hW : W.heap.size ≤ w.heap.size
  ag : Agree W.heap.size o0 o
  kz : KeepZ o0 R W w
section
variable {W w w2 : World} {R base m g g1 c1 : Nat} {C cur : Array Value} {o0 o : Nat → Nat} {q : RS} {x : Wld} {a : Int}
theorem Pk.al (h : Pk o0 W w R base m g C cur o q x) (cs : Array Value) (T : TypeId) : Pk o0 W (w.alloc (.cells cs T)) R base m g C cur o q x :=
  ⟨h.ra.keep (KeepT.of_below (bAl (bRefl w) _) o 9) rfl (fun _ _ => rfl) (Nat.le_refl _), h.br.alloc _, h.bg.alloc _, h.oR, h.og, h.bw.alloc h.hb _, by have := h.hb; simp; omega, by have := h.hW; simp; omega, h.ag, fun g hg hR h0 => (Below.heap_alloc w _ g (Nat.lt_of_lt_of_le hg h.hW)).trans (h.kz.1 g hg hR h0), h.kz.2.trans (KeepsOthers.alloc _ _)⟩
theorem Pk.dr (h : Pk o0 W w R base m g C cur o q x) : Pk o0 W w.drew R base m g C cur o q x :=
  ⟨h.ra.keep (KeepT.of_below (bDr (bRefl w)) o 9) rfl (fun _ _ => rfl) (Nat.le_refl _), h.br, h.bg, h.oR, h.og, h.bw.drew, h.hb, h.hW, h.ag, h.kz.1, h.kz.2.trans (others_below (bDr (bRefl w)))⟩
theorem Pk.row {t n' : Nat} {r : Rwn} {v1 : Value} {xs1 : List Value} {q' : RS} {x' : Wld} (h : Pk o0 W w R base m g C cur o q x) (hr : rowQ q x t = some r) (ht : t ≠ 0) (ht9 : t ≠ 9) (hg : Grew w w2 r.v v1) (hown : w2.ownsRow base r.e r.sz v1 n' xs1)
    (hrt : rowQ q' x' t = some ⟨r.e, r.sz, v1, n', xs1⟩) (hn : n' ≤ m) (hrow : ∀ t', t' ≠ t → rowQ q' x' t' = rowQ q x t') (e1 : q'.ls = q.ls) (e2 : q'.vs = q.vs) (e3 : x'.lines = x.lines) (e4 : x'.orders = x.orders) : Pk o0 W w2 R base m g C cur (updT o w.heap.size t) q' x' := by
  have hO := (h.ra.rows t r hr).1
  have k := KeepT.of_grew hO hg
  refine ⟨h.ra.put hr ht hg hown (by rw [e1, e3]; exact h.ra.lq) (by rw [e2, e4]; exact h.ra.vq) hrt hn (Nat.le_refl _) (fun t' r' ht' e => .inl (by rw [← hrow t' ht']; exact e)) (by rw [e1, e3]; exact h.ra.rl) (by rw [e2, e4]; exact h.ra.rv),
    k.blk h.br (by rw [h.oR]; exact fun e => ht9 e.symm), k.blk h.bg (by rw [h.og]; exact fun e => ht e.symm), by rw [upd_agree o _ t R h.br.lt]; exact h.oR, by rw [upd_agree o _ t g h.bg.lt]; exact h.og, h.bw.trans (hg.below hO.own h.hb), Nat.le_trans h.hb hg.size, Nat.le_trans h.hW hg.size, fun g' hg' => by rw [upd_agree o _ t g' (Nat.lt_of_lt_of_le hg' h.hW)]; exact h.ag g' hg', fun g' hg' hR h0 => (k.2.1 g' (Nat.lt_of_lt_of_le hg' h.hW) (by rw [h.ag g' hg']; omega)).trans (h.kz.1 g' hg' hR h0), h.kz.2.trans k.2.2⟩
theorem Pk.b (h : Pk o0 W w R base m g C cur o q x) (hg : Grew w w2 (.slice q.ws.ab x.base.length q.ws.cb) (.slice (some ⟨g1, 0, none⟩) (x.base.length + 1) c1))
    (hown : w2.ownsRow base 3 1 (.slice (some ⟨g1, 0, none⟩) (x.base.length + 1) c1) (x.base.length + 1) (ints x.base ++ [.int .i64 a])) (hm : x.base.length + 1 ≤ m) :
    Pk o0 W w2 R base m g C cur (updT o w.heap.size 1) { q with ws := { q.ws with ab := some ⟨g1, 0, none⟩, cb := c1 } } { x with base := x.base ++ [a] } := by
  refine h.row (t := 1) rfl (by decide) (by decide) hg hown ?_ hm (fun t' ht' => ?_) rfl rfl rfl rfl
  · show some _ = some _
    simp [ints]
  · unfold rowQ
    simp only [ht', if_false]
theorem Pk.l (h : Pk o0 W w R base m g C cur o q x) (hg : Grew w w2 (.slice q.ws.ag x.leg.length q.ws.cg) (.slice (some ⟨g1, 0, none⟩) (x.leg.length + 1) c1))
    (hown : w2.ownsRow base 3 1 (.slice (some ⟨g1, 0, none⟩) (x.leg.length + 1) c1) (x.leg.length + 1) (ints x.leg ++ [.int .i64 a])) (hm : x.leg.length + 1 ≤ m) :
    Pk o0 W w2 R base m g C cur (updT o w.heap.size 2) { q with ws := { q.ws with ag := some ⟨g1, 0, none⟩, cg := c1 } } { x with leg := x.leg ++ [a] } := by
  refine h.row (t := 2) rfl (by decide) (by decide) hg hown ?_ hm (fun t' ht' => ?_) rfl rfl rfl rfl
  · show some _ = some _
    simp [ints]
  · unfold rowQ
    simp only [ht', if_false]
theorem Pk.ownb (h : Pk o0 W w R base m g C cur o q x) : w.ownsRow base 3 1 (.slice q.ws.ab x.base.length q.ws.cb) x.base.length (ints x.base) := (h.ra.rows 1 _ rfl).1.own
theorem Pk.ownl (h : Pk o0 W w R base m g C cur o q x) : w.ownsRow base 3 1 (.slice q.ws.ag x.leg.length q.ws.cg) x.leg.length (ints x.leg) := (h.ra.rows 2 _ rfl).1.own
theorem Pk.farb {b : Nat} (h : Pk o0 W w R base m g C cur o q x) (hb : w.heap.size ≤ b) : some b ≠ (Value.slice q.ws.ab x.base.length q.ws.cb).ownBlock := fun e => absurd (h.ownb.lt b e.symm).2 (by omega)
theorem Pk.fin {last : ByteArray} {v1 v2 : Value} (h : Pk o0 W w R base m g C cur o q x) (hs : x.seed.length = 32) (ho : okB x.seed) (bR : base ≤ R) (hc : (C.setIfInBounds 2 v1).setIfInBounds 3 v2 = (q.ws.cl x ++ [Value.string last]).toArray) :
    StAt ((w.setCell ⟨R, 2, none⟩ v1).setCell ⟨R, 3, none⟩ v2) R base m o q x last ∧ Below base W ((w.setCell ⟨R, 2, none⟩ v1).setCell ⟨R, 3, none⟩ v2) ∧ KeepZ o0 R W ((w.setCell ⟨R, 2, none⟩ v1).setCell ⟨R, 3, none⟩ v2) ∧ Agree W.heap.size o0 o := by
  have k1 := KeepT.of_set (w := w) h.oR 2 v1
  have k2 := KeepT.of_set (w := w.setCell ⟨R, 2, none⟩ v1) h.oR 3 v2
  refine ⟨⟨?_, h.oR, bR, hs, ho, (h.ra.keep k1 rfl (fun _ _ => rfl) (Nat.le_refl _)).keep k2 rfl (fun _ _ => rfl) (Nat.le_refl _)⟩, (h.bw.setCell (p := ⟨R, 2, none⟩) bR v1).setCell (p := ⟨R, 3, none⟩) bR v2, ⟨fun g' hg' hne h0 => ?_, (h.kz.2.trans (KeepsOthers.setCell _ _ _)).trans (KeepsOthers.setCell _ _ _)⟩, h.ag⟩
  · rw [← hc]
    exact (h.br.set_ 2 v1).set_ 3 v2
  · rw [Below.heap_setCell _ _ _ _ hne, Below.heap_setCell _ _ _ _ hne]
    exact h.kz.1 g' hg' hne h0
end
theorem rd_of_blk {w : World} {b : Nat} {T : TypeId} {v : Value} (h : Blk w b T #[v]) : Rd w w.heap.size 1 (some ⟨b, 0, none⟩) 1 [v] :=
  ⟨rfl, fun _ => ⟨b, 0, rfl, h.lt, fun j u hu => by rw [Nat.zero_add, h.cell]; simpa using hu⟩⟩
theorem one_cell (a : Int) : ∀ u ∈ [Value.int .i64 a], u.oneCell' = true := by intro u hu; simp at hu; rcases hu with rfl; rfl
theorem rd_class (R base m : Nat) (o : Nat → Nat) (q : RS) (x : Wld) (last : ByteArray) (A : Option Addr) (c : Nat) (l : List ByteArray) (W : World) (h : StAt W R base m o q x last) (hA : Rd W W.heap.size 1 A l.length (strs l)) (hl : ∀ s ∈ l, s.size ≤ 1000000) (hn : l.length ≤ 1000000) (hm : m ≤ 1000000) (hG : LibG base W) :
    Calls Tryz.prog 92 #[.pointer (some ⟨R, 0, none⟩), .slice A l.length c] W (RdPost (readR x 2 (bys l)) o R base m last W) := by
  have hbs : base ≤ W.heap.size := Nat.le_trans h.bR (Nat.le_of_lt h.blk.lt)
  have q1 := Lib.hid (rep_numbers base A c l 2 W hA hl hn hG hbs)
  obtain ⟨ox, hox⟩ : ∃ ox, Hid (readR x 2 (bys l) = ox) := ⟨_, Lib.hid rfl⟩
  rw [hox.out]
  have h2 : (numsV (bys l) 2 = none ∧ Hid (ox = none)) ∨ ∃ a0 a1, numsV (bys l) 2 = some [a0, a1] ∧ Hid (ox = some (addR x (2, [a0, a1]))) := by
    rcases nums_fix x (bys l) (k := 2) (n := 2) (by decide) (fun _ => rfl) with ⟨e1, e2⟩ | ⟨ns, hns, e1, e2⟩
    · exact .inl ⟨e1, Lib.hid (hox.out.symm.trans e2)⟩
    · match ns, hns with
      | [a0, a1], _ => exact .inr ⟨a0, a1, e1, Lib.hid (hox.out.symm.trans e2)⟩
  clear hox
  go_enter Tryz.func92, Tryz.ntmps92
  rcases h2 with ⟨e1, e2⟩ | ⟨a0, a1, e1, e2⟩
  · rw [e1] at q1
    go_upto_region 1 with (go_at_call 91; (with_reducible refine q1.out.mono ?_); rintro e w2 ⟨h9, b2⟩; (simp only at h9; unfold PanW at h9; subst h9))
    exact ⟨rfl, RdPost.no e2.out b2 hbs⟩
  · rw [e1] at q1
    go_upto_region 1 with (go_at_call 91; (with_reducible refine q1.out.mono ?_); rintro e w1 ⟨⟨vn, h9, hv⟩, b1⟩; subst h9)
    obtain ⟨g, cap, rfl⟩ := own_two hv (by simp)
    have hv : w1.ownsRow W.heap.size 3 1 (.slice (some ⟨g, 0, none⟩) 2 cap) 2 (ints [a0, a1]) := hv
    obtain ⟨-, hg0, cur, hB, -, -, -, htk⟩ := OwnAt.parts hv
    have h1 := h.later b1 (upd_agree o W.heap.size 0) (Nat.le_succ m)
    have d0 : cur[0]? = some (.int .i64 a0) := by rw [← hB.cell]; exact own_cell hv rfl
    have d1 : cur[1]? = some (.int .i64 a1) := by rw [← hB.cell]; exact own_cell hv rfl
    have lb : x.base.length + 1 ≤ m + 1 := Nat.succ_le_succ (h.ra.rows 1 _ rfl).2
    have lg : x.leg.length + 1 ≤ m + 1 := Nat.succ_le_succ (h.ra.rows 2 _ rfl).2
    have lb2 : x.base.length + 1 ≤ maxLen := by unfold maxLen; omega
    have lg2 : x.leg.length + 1 ≤ maxLen := by unfold maxLen; omega
    have lb3 : (x.base.length + 1) * 8 ≤ 140737488355328 := by omega
    have lg3 : (x.leg.length + 1) * 8 ≤ 140737488355328 := by omega
    have KS : Hid (∀ w', Blk w' R 87 (q.ws.cl x ++ [Value.string last]).toArray → Blk w' g 3 cur → w'.cell? ⟨R, 2, none⟩ = some (.slice q.ws.ab x.base.length q.ws.cb) ∧ w'.cell? ⟨R, 3, none⟩ = some (.slice q.ws.ag x.leg.length q.ws.cg) ∧ w'.cell? ⟨g, 0, none⟩ = some (.int .i64 a0) ∧ w'.cell? ⟨g, 1, none⟩ = some (.int .i64 a1)) :=
      Lib.hid (fun w' u1 u2 => ⟨by rw [u1.cell, List.getElem?_toArray]; rfl, by rw [u1.cell, List.getElem?_toArray]; rfl, by rw [u2.cell]; exact d0, by rw [u2.cell]; exact d1⟩)
    have p0 : Pk o W w1.drew R base (m + 1) g (q.ws.cl x ++ [Value.string last]).toArray cur _ q x := Pk.dr ⟨h1.ra, h1.blk, hB, h1.oR, if_pos hg0, b1.mono hbs, Nat.le_trans hbs b1.size, b1.size, upd_agree o W.heap.size 0, fun g' hg' _ _ => b1.block g' hg', others_below b1⟩
    have BR0 := p0.br
    have BG0 := p0.bg
    refine wp_region_schU (fun w' => w'.cell? ⟨R, 2, none⟩ = some (.slice q.ws.ab x.base.length q.ws.cb) ∧ w'.cell? ⟨R, 3, none⟩ = some (.slice q.ws.ag x.leg.length q.ws.cg) ∧ w'.cell? ⟨g, 0, none⟩ = some (.int .i64 a0) ∧ w'.cell? ⟨g, 1, none⟩ = some (.int .i64 a1)) 28 14 [(0, 1), (1, 1), (2, 1), (3, 1), (4, 1), (5, 1), (6, 1), (7, 2), (8, 1), (9, 1), (10, 2), (13, 1), (14, 1), (15, 1), (16, 1), (17, 1), (18, 2), (19, 1), (20, 1), (21, 2)] (KS.out _ BR0 BG0) ?_
    simp only [pickS, List.getElem?_cons_zero, List.getElem?_cons_succ]
    refine wpSchedU_t ?_
    refine wpSchedU_t ?_
    refine wpSchedU_t ?_
    refine wpSchedU_t ?_
    refine wpSchedU_t ?_
    refine wpSchedU_t ?_
    refine wpSchedU_t ?_
    refine wpSchedU_r ?_
    refine wpSchedU_t ?_
    refine wpSchedU_t ?_
    refine wpSchedU_r ?_
    refine wpSchedU_t ?_
    refine wpSchedU_t ?_
    refine wpSchedU_t ?_
    refine wpSchedU_t ?_
    refine wpSchedU_t ?_
    refine wpSchedU_r ?_
    refine wpSchedU_t ?_
    refine wpSchedU_t ?_
    refine wpSchedU_r ?_
    refine anyU_two (i := 11) (j := 22) ⟨_, rfl, fun K hK => ?_⟩ ⟨_, rfl, fun K hK => ?_⟩
    · go_simp
      have p1 : Pk o W (w1.alloc (.cells #[.int .i64 a0] 3)).drew R base (m + 1) g (q.ws.cl x ++ [Value.string last]).toArray cur _ _ _ := Pk.al p0 _ _
      have BR1 := p1.br
      have BG1 := p1.bg
      have BX1 : Blk (w1.alloc (.cells #[.int .i64 a0] 3)).drew (w1.heap.size) 3 #[.int .i64 a0] := Blk.new w1 _ _ _ (by simp)
      refine shut_goK hK KS ?_
      clear hK K
      refine anyU_two (i := 12) (j := 22) ⟨_, rfl, fun K hK => ?_⟩ ⟨_, rfl, fun K hK => ?_⟩
      · refine step_appendG (.tmp 14) (.tmp 18) 25 base 3 (.int .i64 0) 1 8 (.slice q.ws.ab x.base.length q.ws.cb) x.base.length (ints x.base) (some ⟨w1.heap.size, 0, none⟩) 1 1 _ [.int .i64 a0] rfl rfl Tryz.underlying25 int_info rfl (by omega) rfl p1.ownb rfl (rd_of_blk BX1) (by intro h; cases h) (one_cell a0) lb2 lb3 p1.hb (fun v2 w12 hown2 hg2 => ?_)
        obtain ⟨g2, c2, rfl⟩ := ownsRow_succ hown2
        have p2 := Pk.b p1 hg2 hown2 lb
        have BR2 := p2.br
        have BG2 := p2.bg
        refine shut_goK hK KS ?_
        clear hK K
        refine anyU_one (i := 22) ⟨_, rfl, fun K hK => ?_⟩
        go_simp
        have p3 : Pk o W (w12.alloc (.cells #[.int .i64 a1] 3)) R base (m + 1) g (q.ws.cl x ++ [Value.string last]).toArray cur _ _ _ := Pk.al p2 _ _
        have BR3 := p3.br
        have BG3 := p3.bg
        have BX3 : Blk (w12.alloc (.cells #[.int .i64 a1] 3)) (w12.heap.size) 3 #[.int .i64 a1] := Blk.new w12 _ _ _ (by simp)
        refine shut_goK hK KS ?_
        clear hK K
        refine anyU_one (i := 23) ⟨_, rfl, fun K hK => ?_⟩
        refine step_appendG (.tmp 25) (.tmp 29) 25 base 3 (.int .i64 0) 1 8 (.slice q.ws.ag x.leg.length q.ws.cg) x.leg.length (ints x.leg) (some ⟨w12.heap.size, 0, none⟩) 1 1 _ [.int .i64 a1] rfl rfl Tryz.underlying25 int_info rfl (by omega) rfl p3.ownl rfl (rd_of_blk BX3) (by intro h; cases h) (one_cell a1) lg2 lg3 p3.hb (fun v4 w14 hown4 hg4 => ?_)
        obtain ⟨g4, c4, rfl⟩ := ownsRow_succ hown4
        have p4 := Pk.l p3 hg4 hown4 lg
        have BR4 := p4.br
        have BG4 := p4.bg
        refine shut_goK hK KS ?_
        clear hK K
        have bR8 := p4.br
        refine anyU_rest (g := 6) [(24, 1), (25, 1), (26, 1), (27, 1)] (by intro _; exact KS.out _ bR8 p4.bg) ?_
        simp only [pickS, List.getElem?_cons_zero, List.getElem?_cons_succ]
        iterate 4 refine wpSchedU_t ?_
        have e2r : w14.cell? ⟨R, 2, none⟩ = some (.slice q.ws.ab x.base.length q.ws.cb) := (KS.out _ bR8 p4.bg).1
        have e3r : (w14.setCell ⟨R, 2, none⟩ (.slice (some ⟨g2, 0, none⟩) (x.base.length + 1) c2)).cell? ⟨R, 3, none⟩ = some (.slice q.ws.ag x.leg.length q.ws.cg) := by rw [(bR8.set_ 2 _).cell, List.setIfInBounds_toArray, List.getElem?_toArray]; rfl
        have z2 := bR8.frozen 2
        have z3 := (bR8.set_ 2 (.slice (some ⟨g2, 0, none⟩) (x.base.length + 1) c2)).frozen 3
        have hf := Lib.hid (p4.fin (last := last) (v1 := (.slice (some ⟨g2, 0, none⟩) (x.base.length + 1) c2)) (v2 := (.slice (some ⟨g4, 0, none⟩) (x.leg.length + 1) c4)) h.sd h.so h.bR (by rw [List.setIfInBounds_toArray, List.setIfInBounds_toArray]; refine congrArg List.toArray ?_; simp [WS.cl]))
        clear KS
        refine anyU_list [(28, 3), (29, 3), (30, 3), (31, 3), (32, 3), (33, 3)] ?_
        simp only [pickS, List.getElem?_cons_zero, List.getElem?_cons_succ, List.map_cons, List.map_nil]
        go_wp2_with fail
        refine NoPanic.normal ?_
        go_end0
        exact RdPost.yes e2.out hf.out.1 hf.out.2.1 hf.out.2.2.1 hf.out.2.2.2
      · go_simp
        have p5 : Pk o W ((w1.alloc (.cells #[.int .i64 a0] 3)).alloc (.cells #[.int .i64 a1] 3)).drew R base (m + 1) g (q.ws.cl x ++ [Value.string last]).toArray cur _ _ _ := Pk.al p1 _ _
        have BR5 := p5.br
        have BG5 := p5.bg
        have BX5 : Blk ((w1.alloc (.cells #[.int .i64 a0] 3)).alloc (.cells #[.int .i64 a1] 3)).drew (w1.heap.size + 1) 3 #[.int .i64 a1] := Blk.new (w1.alloc (.cells #[.int .i64 a0] 3)) _ _ _ (by simp)
        have BX5_11 : Blk ((w1.alloc (.cells #[.int .i64 a0] 3)).alloc (.cells #[.int .i64 a1] 3)).drew (w1.heap.size) 3 #[.int .i64 a0] := BX1.alloc _
        refine shut_goK hK KS ?_
        clear hK K
        refine anyU_one (i := 12) ⟨_, rfl, fun K hK => ?_⟩
        refine step_appendG (.tmp 14) (.tmp 18) 25 base 3 (.int .i64 0) 1 8 (.slice q.ws.ab x.base.length q.ws.cb) x.base.length (ints x.base) (some ⟨w1.heap.size, 0, none⟩) 1 1 _ [.int .i64 a0] rfl rfl Tryz.underlying25 int_info rfl (by omega) rfl p5.ownb rfl (rd_of_blk BX5_11) (by intro h; cases h) (one_cell a0) lb2 lb3 p5.hb (fun v6 w16 hown6 hg6 => ?_)
        obtain ⟨g6, c6, rfl⟩ := ownsRow_succ hown6
        have p6 := Pk.b p5 hg6 hown6 lb
        have BR6 := p6.br
        have BG6 := p6.bg
        have BX6_22 : Blk w16 (w1.heap.size + 1) 3 #[.int .i64 a1] := (hg6.other BX5.lt (Pk.farb p1 (by show (w1.alloc (.cells #[.int .i64 a0] 3)).heap.size ≤ _; simp))).trans BX5
        refine shut_goK hK KS ?_
        clear hK K
        refine anyU_one (i := 23) ⟨_, rfl, fun K hK => ?_⟩
        refine step_appendG (.tmp 25) (.tmp 29) 25 base 3 (.int .i64 0) 1 8 (.slice q.ws.ag x.leg.length q.ws.cg) x.leg.length (ints x.leg) (some ⟨w1.heap.size + 1, 0, none⟩) 1 1 _ [.int .i64 a1] rfl rfl Tryz.underlying25 int_info rfl (by omega) rfl p6.ownl rfl (rd_of_blk BX6_22) (by intro h; cases h) (one_cell a1) lg2 lg3 p6.hb (fun v7 w17 hown7 hg7 => ?_)
        obtain ⟨g7, c7, rfl⟩ := ownsRow_succ hown7
        have p7 := Pk.l p6 hg7 hown7 lg
        have BR7 := p7.br
        have BG7 := p7.bg
        refine shut_goK hK KS ?_
        clear hK K
        have bR8 := p7.br
        refine anyU_rest (g := 6) [(24, 1), (25, 1), (26, 1), (27, 1)] (by intro _; exact KS.out _ bR8 p7.bg) ?_
        simp only [pickS, List.getElem?_cons_zero, List.getElem?_cons_succ]
        iterate 4 refine wpSchedU_t ?_
        have e2r : w17.cell? ⟨R, 2, none⟩ = some (.slice q.ws.ab x.base.length q.ws.cb) := (KS.out _ bR8 p7.bg).1
        have e3r : (w17.setCell ⟨R, 2, none⟩ (.slice (some ⟨g6, 0, none⟩) (x.base.length + 1) c6)).cell? ⟨R, 3, none⟩ = some (.slice q.ws.ag x.leg.length q.ws.cg) := by rw [(bR8.set_ 2 _).cell, List.setIfInBounds_toArray, List.getElem?_toArray]; rfl
        have z2 := bR8.frozen 2
        have z3 := (bR8.set_ 2 (.slice (some ⟨g6, 0, none⟩) (x.base.length + 1) c6)).frozen 3
        have hf := Lib.hid (p7.fin (last := last) (v1 := (.slice (some ⟨g6, 0, none⟩) (x.base.length + 1) c6)) (v2 := (.slice (some ⟨g7, 0, none⟩) (x.leg.length + 1) c7)) h.sd h.so h.bR (by rw [List.setIfInBounds_toArray, List.setIfInBounds_toArray]; refine congrArg List.toArray ?_; simp [WS.cl]))
        clear KS
        refine anyU_list [(28, 3), (29, 3), (30, 3), (31, 3), (32, 3), (33, 3)] ?_
        simp only [pickS, List.getElem?_cons_zero, List.getElem?_cons_succ, List.map_cons, List.map_nil]
        go_wp2_with fail
        refine NoPanic.normal ?_
        go_end0
        exact RdPost.yes e2.out hf.out.1 hf.out.2.1 hf.out.2.2.1 hf.out.2.2.2
    · go_simp
      have p8 : Pk o W (w1.alloc (.cells #[.int .i64 a1] 3)).drew R base (m + 1) g (q.ws.cl x ++ [Value.string last]).toArray cur _ _ _ := Pk.al p0 _ _
      have BR8 := p8.br
      have BG8 := p8.bg
      have BX8 : Blk (w1.alloc (.cells #[.int .i64 a1] 3)).drew (w1.heap.size) 3 #[.int .i64 a1] := Blk.new w1 _ _ _ (by simp)
      refine shut_goK hK KS ?_
      clear hK K
      refine anyU_one (i := 11) ⟨_, rfl, fun K hK => ?_⟩
      go_simp
      have p9 : Pk o W ((w1.alloc (.cells #[.int .i64 a1] 3)).alloc (.cells #[.int .i64 a0] 3)).drew R base (m + 1) g (q.ws.cl x ++ [Value.string last]).toArray cur _ _ _ := Pk.al p8 _ _
      have BR9 := p9.br
      have BG9 := p9.bg
      have BX9 : Blk ((w1.alloc (.cells #[.int .i64 a1] 3)).alloc (.cells #[.int .i64 a0] 3)).drew (w1.heap.size + 1) 3 #[.int .i64 a0] := Blk.new (w1.alloc (.cells #[.int .i64 a1] 3)) _ _ _ (by simp)
      have BX9_22 : Blk ((w1.alloc (.cells #[.int .i64 a1] 3)).alloc (.cells #[.int .i64 a0] 3)).drew (w1.heap.size) 3 #[.int .i64 a1] := BX8.alloc _
      refine shut_goK hK KS ?_
      clear hK K
      refine anyU_one (i := 12) ⟨_, rfl, fun K hK => ?_⟩
      refine step_appendG (.tmp 14) (.tmp 18) 25 base 3 (.int .i64 0) 1 8 (.slice q.ws.ab x.base.length q.ws.cb) x.base.length (ints x.base) (some ⟨w1.heap.size + 1, 0, none⟩) 1 1 _ [.int .i64 a0] rfl rfl Tryz.underlying25 int_info rfl (by omega) rfl p9.ownb rfl (rd_of_blk BX9) (by intro h; cases h) (one_cell a0) lb2 lb3 p9.hb (fun v10 w20 hown10 hg10 => ?_)
      obtain ⟨g10, c10, rfl⟩ := ownsRow_succ hown10
      have p10 := Pk.b p9 hg10 hown10 lb
      have BR10 := p10.br
      have BG10 := p10.bg
      have BX10_22 : Blk w20 (w1.heap.size) 3 #[.int .i64 a1] := (hg10.other BX9_22.lt (Pk.farb p0 (by show w1.heap.size ≤ _; simp))).trans BX9_22
      refine shut_goK hK KS ?_
      clear hK K
      refine anyU_one (i := 23) ⟨_, rfl, fun K hK => ?_⟩
      refine step_appendG (.tmp 25) (.tmp 29) 25 base 3 (.int .i64 0) 1 8 (.slice q.ws.ag x.leg.length q.ws.cg) x.leg.length (ints x.leg) (some ⟨w1.heap.size, 0, none⟩) 1 1 _ [.int .i64 a1] rfl rfl Tryz.underlying25 int_info rfl (by omega) rfl p10.ownl rfl (rd_of_blk BX10_22) (by intro h; cases h) (one_cell a1) lg2 lg3 p10.hb (fun v11 w21 hown11 hg11 => ?_)
      obtain ⟨g11, c11, rfl⟩ := ownsRow_succ hown11
      have p11 := Pk.l p10 hg11 hown11 lg
      have BR11 := p11.br
      have BG11 := p11.bg
      refine shut_goK hK KS ?_
      clear hK K
      have bR8 := p11.br
      refine anyU_rest (g := 6) [(24, 1), (25, 1), (26, 1), (27, 1)] (by intro _; exact KS.out _ bR8 p11.bg) ?_
      simp only [pickS, List.getElem?_cons_zero, List.getElem?_cons_succ]
      iterate 4 refine wpSchedU_t ?_
      have e2r : w21.cell? ⟨R, 2, none⟩ = some (.slice q.ws.ab x.base.length q.ws.cb) := (KS.out _ bR8 p11.bg).1
      have e3r : (w21.setCell ⟨R, 2, none⟩ (.slice (some ⟨g10, 0, none⟩) (x.base.length + 1) c10)).cell? ⟨R, 3, none⟩ = some (.slice q.ws.ag x.leg.length q.ws.cg) := by rw [(bR8.set_ 2 _).cell, List.setIfInBounds_toArray, List.getElem?_toArray]; rfl
      have z2 := bR8.frozen 2
      have z3 := (bR8.set_ 2 (.slice (some ⟨g10, 0, none⟩) (x.base.length + 1) c10)).frozen 3
      have hf := Lib.hid (p11.fin (last := last) (v1 := (.slice (some ⟨g10, 0, none⟩) (x.base.length + 1) c10)) (v2 := (.slice (some ⟨g11, 0, none⟩) (x.leg.length + 1) c11)) h.sd h.so h.bR (by rw [List.setIfInBounds_toArray, List.setIfInBounds_toArray]; refine congrArg List.toArray ?_; simp [WS.cl]))
      clear KS
      refine anyU_list [(28, 3), (29, 3), (30, 3), (31, 3), (32, 3), (33, 3)] ?_
      simp only [pickS, List.getElem?_cons_zero, List.getElem?_cons_succ, List.map_cons, List.map_nil]
      go_wp2_with fail
      refine NoPanic.normal ?_
      go_end0
      exact RdPost.yes e2.out hf.out.1 hf.out.2.1 hf.out.2.2.1 hf.out.2.2.2
theorem rd_secret (R base m : Nat) (o : Nat → Nat) (q : RS) (x : Wld) (last : ByteArray) (A : Option Addr) (c : Nat) (l : List ByteArray) (W : World) (h : StAt W R base m o q x last) (hA : Rd W W.heap.size 1 A l.length (strs l)) (hl : ∀ s ∈ l, s.size ≤ 1000000) (hn : l.length ≤ 1000000) (hm : m ≤ 1000000) (hG : LibG base W) :
    Calls Tryz.prog 100 #[.pointer (some ⟨R, 0, none⟩), .slice A l.length c] W (RdPost (readR x 9 (bys l)) o R base m last W) := by
  have hbs : base ≤ W.heap.size := Nat.le_trans h.bR (Nat.le_of_lt h.blk.lt)
  have q1 := Lib.hid (rep_numbers base A c l 1 W.drew hA hl hn (hG.later hbs (bDr (bRefl _))) hbs)
  obtain ⟨ox, hox⟩ : ∃ ox, Hid (readR x 9 (bys l) = ox) := ⟨_, Lib.hid rfl⟩
  rw [hox.out]
  have h2 : (numsV (bys l) 1 = none ∧ Hid (ox = none)) ∨ ∃ a0, numsV (bys l) 1 = some [a0] ∧ Hid (ox = some (addR x (9, [a0]))) := by
    rcases nums_fix x (bys l) (k := 9) (n := 1) (by decide) (fun _ => rfl) with ⟨e1, e2⟩ | ⟨ns, hns, e1, e2⟩
    · exact .inl ⟨e1, Lib.hid (hox.out.symm.trans e2)⟩
    · match ns, hns with
      | [a0], _ => exact .inr ⟨a0, e1, Lib.hid (hox.out.symm.trans e2)⟩
  clear hox
  have cR : (q.ws.cl x ++ [Value.string last]).toArray[9]? = some (.slice q.ws.as_ x.secs.length q.ws.cs) := by rw [List.getElem?_toArray]; rfl
  go_enter Tryz.func100, Tryz.ntmps100
  rcases h2 with ⟨e1, e2⟩ | ⟨a0, e1, e2⟩
  · rw [e1] at q1
    have KS : Hid (∀ w', Below W.heap.size W w' → w'.cell? ⟨R, 9, none⟩ = some (.slice q.ws.as_ x.secs.length q.ws.cs)) := Lib.hid (fun w' b => by rw [(h.blk.below b h.blk.lt).cell]; exact cR)
    go_upto_region 0 with fail
    refine wp_region_schNP (g := 8) KS [(0, 1), (1, 1), (2, 1), (3, 1), (4, 1), (5, 2), (6, 1), (7, 0)] ?_
    simp only [pickS, List.getElem?_cons_zero, List.getElem?_cons_succ]
    refine wpSchedN_t ?_
    refine wpSchedN_t ?_
    refine wpSchedN_t ?_
    refine wpSchedN_t ?_
    refine wpSchedN_t ?_
    refine wpSchedN_r ?_
    refine wpSchedN_t ?_
    refine wpSchedN_force (fun K hK => ?_)
    go_simp; (first | (go_at_call 91; (with_reducible refine q1.out.mono ?_); rintro e w2 ⟨h9, b2⟩; (simp only at h9; unfold PanW at h9; subst h9); exact ⟨rfl, RdPost.no e2.out (bCall (bDr (bRefl W)) b2) hbs⟩))
  · rw [e1] at q1
    have KS : Hid (∀ w', Blk w' R 87 (q.ws.cl x ++ [Value.string last]).toArray → Blk w' R 87 (q.ws.cl x ++ [Value.string last]).toArray → w'.cell? ⟨R, 9, none⟩ = some (.slice q.ws.as_ x.secs.length q.ws.cs)) := Lib.hid (fun w' b _ => by rw [b.cell]; exact cR)
    have BR0 : Blk W.drew R 87 (q.ws.cl x ++ [Value.string last]).toArray := h.blk
    have hrow : rowQ q x 7 = some ⟨3, 1, .slice q.ws.as_ x.secs.length q.ws.cs, x.secs.length, ints x.secs⟩ := rfl
    have hOm := (h.ra.rows 7 _ hrow).2
    have h63 : x.secs.length + 1 ≤ maxLen := by simp only at hOm; unfold maxLen; omega
    have hby : (x.secs.length + 1) * 8 ≤ 140737488355328 := by simp only at hOm; omega
    go_upto_region 0 with fail
    refine wp_region_schK (f := 15) KS [(0, 1), (1, 1), (2, 1), (3, 1), (4, 1), (5, 2), (6, 1), (7, 0), (8, 1), (9, 0), (10, 0), (11, 0), (12, 1), (13, 1), (14, 1), (15, 3)] ?_
    simp only [pickS, List.getElem?_cons_zero, List.getElem?_cons_succ]
    refine wpSched_t ?_
    refine wpSched_t ?_
    refine wpSched_t ?_
    refine wpSched_t ?_
    refine wpSched_t ?_
    refine wpSched_r ?_
    refine wpSched_t ?_
    refine wpSched_force (fun K hK => ?_)
    first | ((refine step_appendG (.tmp 9) (.tmp 14) 25 base 3 (.int .i64 0) 1 8 (.slice q.ws.as_ x.secs.length q.ws.cs) x.secs.length (ints x.secs) (some ⟨w1.heap.size, 0, none⟩) 1 1 _ [.int .i64 a0] rfl rfl Tryz.underlying25 int_info rfl (by omega) rfl hO3 rfl (rd_of_blk BX) (by intro h; cases h) (one_cell a0) h63 hby hbs3 (fun v1 w2 hown2 hg2 => ?_); obtain ⟨g1, c1, rfl⟩ := ownsRow_succ hown2; have hgr := hg2.pre (bAl (bRefl w1) _); have kk := KeepT.of_grew hO hgr; have BR4 := kk.blk BR1 (by rw [h1.oR]; decide))) | (go_simp; (first | (go_at_call 91; (with_reducible refine q1.out.mono ?_); rintro e w1 ⟨⟨vn, h9, hv⟩, b1⟩; subst h9; obtain ⟨g, cap, rfl⟩ := own_two hv (by simp); have hv : w1.ownsRow W.heap.size 3 1 (.slice (some ⟨g, 0, none⟩) 1 cap) 1 (ints [a0]) := hv; have b1 : Below W.heap.size W w1 := bCall (bDr (bRefl _)) b1; have h1 := h.later b1 (upd_agree o W.heap.size 0) (Nat.le_refl m); have BR1 := h1.blk; have d0 : w1.cell? ⟨g, 0, none⟩ = some (.int .i64 a0) := own_cell hv rfl; have hO := (h1.ra.rows 7 _ hrow).1; have hO3 : (w1.alloc (.cells #[.int .i64 a0] 3)).ownsRow base 3 1 (.slice q.ws.as_ x.secs.length q.ws.cs) x.secs.length (ints x.secs) := hO.own.alloc _; have BX : Blk (w1.alloc (.cells #[.int .i64 a0] 3)) w1.heap.size 3 #[.int .i64 a0] := Blk.new _ _ _ _ rfl; have hbs3 : base ≤ (w1.alloc (.cells #[.int .i64 a0] 3)).heap.size := Nat.le_trans (Nat.le_trans hbs b1.size) (bAl (bRefl w1) _).size) | skip))
    refine shut_goK hK KS ?_
    clear hK K
    refine wpSched_t ?_
    refine wpSched_force (fun K hK => ?_)
    first | ((refine step_appendG (.tmp 9) (.tmp 14) 25 base 3 (.int .i64 0) 1 8 (.slice q.ws.as_ x.secs.length q.ws.cs) x.secs.length (ints x.secs) (some ⟨w1.heap.size, 0, none⟩) 1 1 _ [.int .i64 a0] rfl rfl Tryz.underlying25 int_info rfl (by omega) rfl hO3 rfl (rd_of_blk BX) (by intro h; cases h) (one_cell a0) h63 hby hbs3 (fun v1 w2 hown2 hg2 => ?_); obtain ⟨g1, c1, rfl⟩ := ownsRow_succ hown2; have hgr := hg2.pre (bAl (bRefl w1) _); have kk := KeepT.of_grew hO hgr; have BR4 := kk.blk BR1 (by rw [h1.oR]; decide))) | (go_simp; (first | (go_at_call 91; (with_reducible refine q1.out.mono ?_); rintro e w1 ⟨⟨vn, h9, hv⟩, b1⟩; subst h9; obtain ⟨g, cap, rfl⟩ := own_two hv (by simp); have hv : w1.ownsRow W.heap.size 3 1 (.slice (some ⟨g, 0, none⟩) 1 cap) 1 (ints [a0]) := hv; have b1 : Below W.heap.size W w1 := bCall (bDr (bRefl _)) b1; have h1 := h.later b1 (upd_agree o W.heap.size 0) (Nat.le_refl m); have BR1 := h1.blk; have d0 : w1.cell? ⟨g, 0, none⟩ = some (.int .i64 a0) := own_cell hv rfl; have hO := (h1.ra.rows 7 _ hrow).1; have hO3 : (w1.alloc (.cells #[.int .i64 a0] 3)).ownsRow base 3 1 (.slice q.ws.as_ x.secs.length q.ws.cs) x.secs.length (ints x.secs) := hO.own.alloc _; have BX : Blk (w1.alloc (.cells #[.int .i64 a0] 3)) w1.heap.size 3 #[.int .i64 a0] := Blk.new _ _ _ _ rfl; have hbs3 : base ≤ (w1.alloc (.cells #[.int .i64 a0] 3)).heap.size := Nat.le_trans (Nat.le_trans hbs b1.size) (bAl (bRefl w1) _).size) | skip))
    refine shut_goK hK KS ?_
    clear hK K
    refine wpSched_force (fun K hK => ?_)
    first | ((refine step_appendG (.tmp 9) (.tmp 14) 25 base 3 (.int .i64 0) 1 8 (.slice q.ws.as_ x.secs.length q.ws.cs) x.secs.length (ints x.secs) (some ⟨w1.heap.size, 0, none⟩) 1 1 _ [.int .i64 a0] rfl rfl Tryz.underlying25 int_info rfl (by omega) rfl hO3 rfl (rd_of_blk BX) (by intro h; cases h) (one_cell a0) h63 hby hbs3 (fun v1 w2 hown2 hg2 => ?_); obtain ⟨g1, c1, rfl⟩ := ownsRow_succ hown2; have hgr := hg2.pre (bAl (bRefl w1) _); have kk := KeepT.of_grew hO hgr; have BR4 := kk.blk BR1 (by rw [h1.oR]; decide))) | (go_simp; (first | (go_at_call 91; (with_reducible refine q1.out.mono ?_); rintro e w1 ⟨⟨vn, h9, hv⟩, b1⟩; subst h9; obtain ⟨g, cap, rfl⟩ := own_two hv (by simp); have hv : w1.ownsRow W.heap.size 3 1 (.slice (some ⟨g, 0, none⟩) 1 cap) 1 (ints [a0]) := hv; have b1 : Below W.heap.size W w1 := bCall (bDr (bRefl _)) b1; have h1 := h.later b1 (upd_agree o W.heap.size 0) (Nat.le_refl m); have BR1 := h1.blk; have d0 : w1.cell? ⟨g, 0, none⟩ = some (.int .i64 a0) := own_cell hv rfl; have hO := (h1.ra.rows 7 _ hrow).1; have hO3 : (w1.alloc (.cells #[.int .i64 a0] 3)).ownsRow base 3 1 (.slice q.ws.as_ x.secs.length q.ws.cs) x.secs.length (ints x.secs) := hO.own.alloc _; have BX : Blk (w1.alloc (.cells #[.int .i64 a0] 3)) w1.heap.size 3 #[.int .i64 a0] := Blk.new _ _ _ _ rfl; have hbs3 : base ≤ (w1.alloc (.cells #[.int .i64 a0] 3)).heap.size := Nat.le_trans (Nat.le_trans hbs b1.size) (bAl (bRefl w1) _).size) | skip))
    refine shut_goK hK KS ?_
    clear hK K
    refine wpSched_force (fun K hK => ?_)
    first | ((refine step_appendG (.tmp 9) (.tmp 14) 25 base 3 (.int .i64 0) 1 8 (.slice q.ws.as_ x.secs.length q.ws.cs) x.secs.length (ints x.secs) (some ⟨w1.heap.size, 0, none⟩) 1 1 _ [.int .i64 a0] rfl rfl Tryz.underlying25 int_info rfl (by omega) rfl hO3 rfl (rd_of_blk BX) (by intro h; cases h) (one_cell a0) h63 hby hbs3 (fun v1 w2 hown2 hg2 => ?_); obtain ⟨g1, c1, rfl⟩ := ownsRow_succ hown2; have hgr := hg2.pre (bAl (bRefl w1) _); have kk := KeepT.of_grew hO hgr; have BR4 := kk.blk BR1 (by rw [h1.oR]; decide))) | (go_simp; (first | (go_at_call 91; (with_reducible refine q1.out.mono ?_); rintro e w1 ⟨⟨vn, h9, hv⟩, b1⟩; subst h9; obtain ⟨g, cap, rfl⟩ := own_two hv (by simp); have hv : w1.ownsRow W.heap.size 3 1 (.slice (some ⟨g, 0, none⟩) 1 cap) 1 (ints [a0]) := hv; have b1 : Below W.heap.size W w1 := bCall (bDr (bRefl _)) b1; have h1 := h.later b1 (upd_agree o W.heap.size 0) (Nat.le_refl m); have BR1 := h1.blk; have d0 : w1.cell? ⟨g, 0, none⟩ = some (.int .i64 a0) := own_cell hv rfl; have hO := (h1.ra.rows 7 _ hrow).1; have hO3 : (w1.alloc (.cells #[.int .i64 a0] 3)).ownsRow base 3 1 (.slice q.ws.as_ x.secs.length q.ws.cs) x.secs.length (ints x.secs) := hO.own.alloc _; have BX : Blk (w1.alloc (.cells #[.int .i64 a0] 3)) w1.heap.size 3 #[.int .i64 a0] := Blk.new _ _ _ _ rfl; have hbs3 : base ≤ (w1.alloc (.cells #[.int .i64 a0] 3)).heap.size := Nat.le_trans (Nat.le_trans hbs b1.size) (bAl (bRefl w1) _).size) | skip))
    refine shut_goK hK KS ?_
    clear hK K
    refine wpSched_t ?_
    refine wpSched_t ?_
    refine wpSched_t ?_
    refine wpSched_last ?_
    first | simp only [List.map_nil] | simp only [List.map_cons, List.map_nil]
    have c4 : w2.cell? ⟨R, 9, none⟩ = some (.slice q.ws.as_ x.secs.length q.ws.cs) := by rw [BR4.cell]; exact cR
    have f4 := BR4.frozen 9
    have bw : Below base W (w2.setCell ⟨R, 9, none⟩ (.slice (some ⟨g1, 0, none⟩) (x.secs.length + 1) c1)) := ((b1.mono hbs).trans (hgr.below hO.own (Nat.le_trans hbs b1.size))).setCell (p := ⟨R, 9, none⟩) h.bR _
    have hfin : StAt (w2.setCell ⟨R, 9, none⟩ (.slice (some ⟨g1, 0, none⟩) (x.secs.length + 1) c1)) R base (m + 1) (updT (updT o W.heap.size 0) w1.heap.size 7) { q with ws := { q.ws with as_ := some ⟨g1, 0, none⟩, cs := c1 } } (addR x (9, [a0])) last := by
      refine h1.put (t := 7) hrow (by decide) (by decide) hgr hown2 h1.ra.lq h1.ra.vq ?_ (Nat.succ_le_succ hOm) ?_ h1.ra.rl h1.ra.rv rfl ?_
      · show some _ = some _
        simp [addR, nat_, ints]
      · intro t' r' ht hr'
        left
        rw [← hr']
        unfold rowQ
        simp only [ht, if_false]
        rfl
      · rw [List.setIfInBounds_toArray]
        refine congrArg List.toArray ?_
        simp [WS.cl, addR]
    have hfin := Lib.hid hfin
    clear KS
    go_wp2_with fail
    refine NoPanic.normal ?_
    go_end0
    exact RdPost.yes e2.out hfin.out bw (KeepZ.of b1 (upd_agree o W.heap.size 0) kk (by decide) (by decide) (fun _ h _ => h)) (agree2 b1.size)
end Go.Proofs.YtmbopkcmbiommaaGreatDoor
