/- readers of rows: entries, faults; walked (printed by gen/RrI.py). -/
import Derived.Test.YtmbopkcmbiommaaGreatDoorRaw
import Derived.Test.YtmbopkcmbiommaaGreatDoorRaj
import Derived.Test.YtmbopkcmbiommaaGreatDoorRak
set_option maxRecDepth 1000000
set_option maxHeartbeats 16000000
namespace Go.Proofs.YtmbopkcmbiommaaGreatDoor
open Go Go.RowKit
theorem ws_split (s : WS) (x : Wld) (last : ByteArray) : s.cl x ++ [Value.string last] = [.int .i64 x.offs, .slice s.al x.lines.length s.cl_, .slice s.ab x.base.length s.cb, .slice s.ag x.leg.length s.cg, .slice s.at_ x.tiers.length s.ct, .slice s.ao x.orders.length s.co, .int .i64 x.people, .slice s.ae x.ents.length s.ce, .int .i64 x.covers, .slice s.as_ x.secs.length s.cs] ++ (byts x.seed ++ [.slice s.af x.faults.length s.cf, .string last]) := by
  unfold WS.cl
  simp
theorem fld42 (s : WS) (x : Wld) (last : ByteArray) (h : x.seed.length = 32) : (s.cl x ++ [Value.string last])[42]? = some (.slice s.af x.faults.length s.cf) := by
  rw [ws_split, List.getElem?_append_right (by simp), List.getElem?_append_right (by simp [byts_length, h])]
  simp [byts_length, h]
theorem set42 (s : WS) (x : Wld) (last : ByteArray) (h : x.seed.length = 32) {v : Value} {s' : WS} {x' : Wld} (hv : s'.cl x' ++ [Value.string last] = [.int .i64 x.offs, .slice s.al x.lines.length s.cl_, .slice s.ab x.base.length s.cb, .slice s.ag x.leg.length s.cg, .slice s.at_ x.tiers.length s.ct, .slice s.ao x.orders.length s.co, .int .i64 x.people, .slice s.ae x.ents.length s.ce, .int .i64 x.covers, .slice s.as_ x.secs.length s.cs] ++ (byts x.seed ++ [v, .string last])) : (s.cl x ++ [Value.string last]).set 42 v = s'.cl x' ++ [Value.string last] := by
  rw [hv, ws_split, List.set_append_right _ _ (by simp), List.set_append_right _ _ (by simp [byts_length, h])]
  simp [byts_length, h]
theorem ent_info : (Tryz.prog.info? 67).map (fun i => (i.zero, i.size, i.bytes)) = some (some (.agg #[.int .i64 0, .int .i64 0, .int .i64 0, .int .i64 0, .int .i64 0, .int .i64 0, .int .i64 0, .int .i64 0]), 8, 64) := by kernel_rfl
theorem rd_entry (R base m : Nat) (o : Nat → Nat) (q : RS) (x : Wld) (last : ByteArray) (A : Option Addr) (c : Nat) (l : List ByteArray) (W : World) (h : StAt W R base m o q x last) (hA : Rd W W.heap.size 1 A l.length (strs l)) (hl : ∀ s ∈ l, s.size ≤ 1000000) (hn : l.length ≤ 1000000) (hm : m ≤ 1000000) (hG : LibG base W) :
    Calls Tryz.prog 99 #[.pointer (some ⟨R, 0, none⟩), .slice A l.length c] W (RdPost (readR x 8 (bys l)) o R base m last W) := by
  have hbs : base ≤ W.heap.size := Nat.le_trans h.bR (Nat.le_of_lt h.blk.lt)
  have q1 := Lib.hid (rep_numbers base A c l 8 W hA hl hn hG hbs)
  obtain ⟨ox, hox⟩ : ∃ ox, Hid (readR x 8 (bys l) = ox) := ⟨_, Lib.hid rfl⟩
  rw [hox.out]
  have h2 : (numsV (bys l) 8 = none ∧ Hid (ox = none)) ∨ ∃ a0 a1 a2 a3 a4 a5 a6 a7, numsV (bys l) 8 = some [a0, a1, a2, a3, a4, a5, a6, a7] ∧ Hid (ox = some (addR x (8, [a0, a1, a2, a3, a4, a5, a6, a7]))) := by
    rcases nums_fix x (bys l) (k := 8) (n := 8) (by decide) (fun _ => rfl) with ⟨e1, e2⟩ | ⟨ns, hns, e1, e2⟩
    · exact .inl ⟨e1, Lib.hid (hox.out.symm.trans e2)⟩
    · match ns, hns with
      | [a0, a1, a2, a3, a4, a5, a6, a7], _ => exact .inr ⟨a0, a1, a2, a3, a4, a5, a6, a7, e1, Lib.hid (hox.out.symm.trans e2)⟩
  clear hox
  go_enter Tryz.func99, Tryz.ntmps99
  rcases h2 with ⟨e1, e2⟩ | ⟨a0, a1, a2, a3, a4, a5, a6, a7, e1, e2⟩
  · rw [e1] at q1
    go_upto_region 1 with (go_at_call 91; (with_reducible refine q1.out.mono ?_); rintro e w2 ⟨h9, b2⟩; (simp only at h9; unfold PanW at h9; subst h9))
    exact ⟨rfl, RdPost.no e2.out b2 hbs⟩
  · rw [e1] at q1
    go_upto_region 1 with (go_at_call 91; (with_reducible refine q1.out.mono ?_); rintro e w1 ⟨⟨vn, h9, hv⟩, b1⟩; subst h9)
    obtain ⟨g, cap, rfl⟩ := own_two hv (by simp)
    have hv : w1.ownsRow W.heap.size 3 1 (.slice (some ⟨g, 0, none⟩) 8 cap) 8 (ints [a0, a1, a2, a3, a4, a5, a6, a7]) := hv
    obtain ⟨-, hg0, cur, hB, -, -, -, htk⟩ := OwnAt.parts hv
    have h1 := h.later b1 (upd_agree o W.heap.size 0) (Nat.le_refl m)
    have ogn : updT o W.heap.size 0 g = 0 := if_pos hg0
    have d0 : cur[0]? = some (.int .i64 a0) := by rw [← hB.cell]; exact own_cell hv rfl
    have d1 : cur[1]? = some (.int .i64 a1) := by rw [← hB.cell]; exact own_cell hv rfl
    have d2 : cur[2]? = some (.int .i64 a2) := by rw [← hB.cell]; exact own_cell hv rfl
    have d3 : cur[3]? = some (.int .i64 a3) := by rw [← hB.cell]; exact own_cell hv rfl
    have d4 : cur[4]? = some (.int .i64 a4) := by rw [← hB.cell]; exact own_cell hv rfl
    have d5 : cur[5]? = some (.int .i64 a5) := by rw [← hB.cell]; exact own_cell hv rfl
    have d6 : cur[6]? = some (.int .i64 a6) := by rw [← hB.cell]; exact own_cell hv rfl
    have d7 : cur[7]? = some (.int .i64 a7) := by rw [← hB.cell]; exact own_cell hv rfl
    have BR := h1.blk
    have hrow : rowQ q x 6 = some ⟨67, 8, (.slice q.ws.ae x.ents.length q.ws.ce), x.ents.length, x.ents.flatMap Ent.cl⟩ := rfl
    obtain ⟨hO, hOm⟩ := h1.ra.rows 6 _ hrow
    have cR : (q.ws.cl x ++ [Value.string last]).toArray[7]? = some (.slice q.ws.ae x.ents.length q.ws.ce) := by rw [List.getElem?_toArray]; rfl
    have KS : Hid (∀ w', Blk w' R 87 (q.ws.cl x ++ [Value.string last]).toArray → Blk w' g 3 cur → w'.cell? ⟨R, 7, none⟩ = some (.slice q.ws.ae x.ents.length q.ws.ce) ∧ w'.cell? ⟨g, 0, none⟩ = some (.int .i64 a0) ∧ w'.cell? ⟨g, 1, none⟩ = some (.int .i64 a1) ∧ w'.cell? ⟨g, 2, none⟩ = some (.int .i64 a2) ∧ w'.cell? ⟨g, 3, none⟩ = some (.int .i64 a3) ∧ w'.cell? ⟨g, 4, none⟩ = some (.int .i64 a4) ∧ w'.cell? ⟨g, 5, none⟩ = some (.int .i64 a5) ∧ w'.cell? ⟨g, 6, none⟩ = some (.int .i64 a6) ∧ w'.cell? ⟨g, 7, none⟩ = some (.int .i64 a7)) :=
      Lib.hid (fun w' u1 u2 => ⟨by rw [u1.cell]; exact cR, by rw [u2.cell]; exact d0, by rw [u2.cell]; exact d1, by rw [u2.cell]; exact d2, by rw [u2.cell]; exact d3, by rw [u2.cell]; exact d4, by rw [u2.cell]; exact d5, by rw [u2.cell]; exact d6, by rw [u2.cell]; exact d7⟩)
    have BR2 : Blk w1.drew R 87 (q.ws.cl x ++ [Value.string last]).toArray := BR
    have BG2 : Blk w1.drew g 3 cur := hB
    have BR3 : Blk (w1.alloc (.cells #[.int .i64 a0, .int .i64 a1, .int .i64 a2, .int .i64 a3, .int .i64 a4, .int .i64 a5, .int .i64 a6, .int .i64 a7] 67)).drew R 87 (q.ws.cl x ++ [Value.string last]).toArray := BR.alloc _
    have BG3 : Blk (w1.alloc (.cells #[.int .i64 a0, .int .i64 a1, .int .i64 a2, .int .i64 a3, .int .i64 a4, .int .i64 a5, .int .i64 a6, .int .i64 a7] 67)).drew g 3 cur := hB.alloc _
    have hO3 : World.ownsRow (w1.alloc (.cells #[.int .i64 a0, .int .i64 a1, .int .i64 a2, .int .i64 a3, .int .i64 a4, .int .i64 a5, .int .i64 a6, .int .i64 a7] 67)).drew base 67 8 (.slice q.ws.ae x.ents.length q.ws.ce) x.ents.length (x.ents.flatMap Ent.cl) := hO.own.alloc _
    have hRd : Rd (w1.alloc (.cells #[.int .i64 a0, .int .i64 a1, .int .i64 a2, .int .i64 a3, .int .i64 a4, .int .i64 a5, .int .i64 a6, .int .i64 a7] 67)).drew _ 8 (some ⟨w1.heap.size, 0, none⟩) 1 [.int .i64 a0, .int .i64 a1, .int .i64 a2, .int .i64 a3, .int .i64 a4, .int .i64 a5, .int .i64 a6, .int .i64 a7] := Rd.new w1 [.int .i64 a0, .int .i64 a1, .int .i64 a2, .int .i64 a3, .int .i64 a4, .int .i64 a5, .int .i64 a6, .int .i64 a7] 67 8 1 _ rfl rfl
    have hone : ∀ u ∈ [Value.int .i64 a0, Value.int .i64 a1, Value.int .i64 a2, Value.int .i64 a3, Value.int .i64 a4, Value.int .i64 a5, Value.int .i64 a6, Value.int .i64 a7], u.oneCell' = true := by intro u hu; simp at hu; rcases hu with rfl | rfl | rfl | rfl | rfl | rfl | rfl | rfl <;> rfl
    have h63 : x.ents.length + 1 ≤ maxLen := by simp only at hOm; unfold maxLen; omega
    have hby : (x.ents.length + 1) * 64 ≤ 140737488355328 := by simp only at hOm; omega
    have hbs3 : base ≤ (World.heap (w1.alloc (.cells #[.int .i64 a0, .int .i64 a1, .int .i64 a2, .int .i64 a3, .int .i64 a4, .int .i64 a5, .int .i64 a6, .int .i64 a7] 67)).drew).size := Nat.le_trans (Nat.le_trans hbs b1.size) (bDr (bAl (bRefl w1) _)).size
    refine wp_region_schK (f := 36) KS [(0, 1), (1, 1), (2, 1), (3, 1), (4, 1), (5, 2), (6, 1), (7, 1), (8, 2), (9, 1), (10, 1), (11, 2), (12, 1), (13, 1), (14, 2), (15, 1), (16, 1), (17, 2), (18, 1), (19, 1), (20, 2), (21, 1), (22, 1), (23, 2), (24, 1), (25, 1), (26, 2), (27, 1), (28, 1), (29, 2), (30, 1), (31, 0), (32, 0), (33, 1), (34, 1), (35, 1), (36, 3)] ?_
    simp only [pickS, List.getElem?_cons_zero, List.getElem?_cons_succ]
    refine wpSched_t ?_
    refine wpSched_t ?_
    refine wpSched_t ?_
    refine wpSched_t ?_
    refine wpSched_t ?_
    refine wpSched_r ?_
    refine wpSched_t ?_
    refine wpSched_t ?_
    refine wpSched_r ?_
    refine wpSched_t ?_
    refine wpSched_t ?_
    refine wpSched_r ?_
    refine wpSched_t ?_
    refine wpSched_t ?_
    refine wpSched_r ?_
    refine wpSched_t ?_
    refine wpSched_t ?_
    refine wpSched_r ?_
    refine wpSched_t ?_
    refine wpSched_t ?_
    refine wpSched_r ?_
    refine wpSched_t ?_
    refine wpSched_t ?_
    refine wpSched_r ?_
    refine wpSched_t ?_
    refine wpSched_t ?_
    refine wpSched_r ?_
    refine wpSched_t ?_
    refine wpSched_t ?_
    refine wpSched_r ?_
    refine wpSched_t ?_
    refine wpSched_force (fun K hK => ?_)
    first | ((refine step_appendG (.tmp 12) (.tmp 38) 30 base 67 (.agg #[.int .i64 0, .int .i64 0, .int .i64 0, .int .i64 0, .int .i64 0, .int .i64 0, .int .i64 0, .int .i64 0]) 8 64 (.slice q.ws.ae x.ents.length q.ws.ce) x.ents.length (x.ents.flatMap Ent.cl) (some ⟨w1.heap.size, 0, none⟩) 1 1 _ [.int .i64 a0, .int .i64 a1, .int .i64 a2, .int .i64 a3, .int .i64 a4, .int .i64 a5, .int .i64 a6, .int .i64 a7] rfl rfl Tryz.underlying30 ent_info rfl (by omega) rfl hO3 rfl hRd (by intro h; cases h) hone h63 hby hbs3 (fun v1 w2 hown2 hg2 => ?_); obtain ⟨g1, c1, rfl⟩ := ownsRow_succ hown2; have hgr := hg2.pre (bDr (bAl (bRefl w1) _)); have kk := KeepT.of_grew hO hgr; have BR4 := kk.blk BR (by rw [h1.oR]; decide); have BG4 := kk.blk hB (by rw [ogn]; decide))) | (go_simp)
    refine shut_goK hK KS ?_
    clear hK K
    refine wpSched_force (fun K hK => ?_)
    first | ((refine step_appendG (.tmp 12) (.tmp 38) 30 base 67 (.agg #[.int .i64 0, .int .i64 0, .int .i64 0, .int .i64 0, .int .i64 0, .int .i64 0, .int .i64 0, .int .i64 0]) 8 64 (.slice q.ws.ae x.ents.length q.ws.ce) x.ents.length (x.ents.flatMap Ent.cl) (some ⟨w1.heap.size, 0, none⟩) 1 1 _ [.int .i64 a0, .int .i64 a1, .int .i64 a2, .int .i64 a3, .int .i64 a4, .int .i64 a5, .int .i64 a6, .int .i64 a7] rfl rfl Tryz.underlying30 ent_info rfl (by omega) rfl hO3 rfl hRd (by intro h; cases h) hone h63 hby hbs3 (fun v1 w2 hown2 hg2 => ?_); obtain ⟨g1, c1, rfl⟩ := ownsRow_succ hown2; have hgr := hg2.pre (bDr (bAl (bRefl w1) _)); have kk := KeepT.of_grew hO hgr; have BR4 := kk.blk BR (by rw [h1.oR]; decide); have BG4 := kk.blk hB (by rw [ogn]; decide))) | (go_simp)
    refine shut_goK hK KS ?_
    clear hK K
    refine wpSched_t ?_
    refine wpSched_t ?_
    refine wpSched_t ?_
    refine wpSched_last ?_
    first | simp only [List.map_nil] | simp only [List.map_cons, List.map_nil]
    have c4 : w2.cell? ⟨R, 7, none⟩ = some (.slice q.ws.ae x.ents.length q.ws.ce) := by rw [BR4.cell]; exact cR
    have f4 := BR4.frozen 7
    have bw : Below base W (w2.setCell ⟨R, 7, none⟩ (.slice (some ⟨g1, 0, none⟩) (x.ents.length + 1) c1)) := ((b1.mono hbs).trans (hgr.below hO.own (Nat.le_trans hbs b1.size))).setCell (p := ⟨R, 7, none⟩) h.bR _
    have hfin : StAt (w2.setCell ⟨R, 7, none⟩ (.slice (some ⟨g1, 0, none⟩) (x.ents.length + 1) c1)) R base (m + 1) (updT (updT o W.heap.size 0) w1.heap.size 6) { q with ws := { q.ws with ae := some ⟨g1, 0, none⟩, ce := c1 } } (addR x (8, [a0, a1, a2, a3, a4, a5, a6, a7])) last := by
      refine h1.put (t := 6) hrow (by decide) (by decide) hgr hown2 h1.ra.lq h1.ra.vq ?_ (Nat.succ_le_succ hOm) ?_ h1.ra.rl h1.ra.rv rfl ?_
      · show some _ = some _
        simp [addR, nat_, Ent.cl]
      · intro t' r' ht hr'
        left
        rw [← hr']
        unfold rowQ
        simp only [ht, if_false]
        rfl
      · rw [List.setIfInBounds_toArray]
        refine congrArg List.toArray ?_
        simp [WS.cl, addR]
    have hfin := Lib.hid hfin
    clear KS
    go_wp2_with fail
    refine NoPanic.normal ?_
    go_end0
    exact RdPost.yes e2.out hfin.out bw (KeepZ.of b1 (upd_agree o W.heap.size 0) kk (by decide) (by decide) (fun _ h _ => h)) (agree2 b1.size)
theorem slip_info : (Tryz.prog.info? 71).map (fun i => (i.zero, i.size, i.bytes)) = some (some (.agg #[.int .i64 0, .int .i64 0, .int .i64 0, .int .i64 0]), 4, 32) := by kernel_rfl
theorem rd_fault (R base m : Nat) (o : Nat → Nat) (q : RS) (x : Wld) (last : ByteArray) (A : Option Addr) (c : Nat) (l : List ByteArray) (W : World) (h : StAt W R base m o q x last) (hA : Rd W W.heap.size 1 A l.length (strs l)) (hl : ∀ s ∈ l, s.size ≤ 1000000) (hn : l.length ≤ 1000000) (hm : m ≤ 1000000) (hG : LibG base W) :
    Calls Tryz.prog 101 #[.pointer (some ⟨R, 0, none⟩), .slice A l.length c] W (RdPost (readR x 10 (bys l)) o R base m last W) := by
  have hbs : base ≤ W.heap.size := Nat.le_trans h.bR (Nat.le_of_lt h.blk.lt)
  have q1 := Lib.hid (rep_numbers base A c l 4 W hA hl hn hG hbs)
  obtain ⟨ox, hox⟩ : ∃ ox, Hid (readR x 10 (bys l) = ox) := ⟨_, Lib.hid rfl⟩
  rw [hox.out]
  have h2 : (numsV (bys l) 4 = none ∧ Hid (ox = none)) ∨ ∃ a0 a1 a2 a3, numsV (bys l) 4 = some [a0, a1, a2, a3] ∧ Hid (ox = some (addR x (10, [a0, a1, a2, a3]))) := by
    rcases nums_fix x (bys l) (k := 10) (n := 4) (by decide) (fun _ => rfl) with ⟨e1, e2⟩ | ⟨ns, hns, e1, e2⟩
    · exact .inl ⟨e1, Lib.hid (hox.out.symm.trans e2)⟩
    · match ns, hns with
      | [a0, a1, a2, a3], _ => exact .inr ⟨a0, a1, a2, a3, e1, Lib.hid (hox.out.symm.trans e2)⟩
  clear hox
  go_enter Tryz.func101, Tryz.ntmps101
  rcases h2 with ⟨e1, e2⟩ | ⟨a0, a1, a2, a3, e1, e2⟩
  · rw [e1] at q1
    go_upto_region 1 with (go_at_call 91; (with_reducible refine q1.out.mono ?_); rintro e w2 ⟨h9, b2⟩; (simp only at h9; unfold PanW at h9; subst h9))
    exact ⟨rfl, RdPost.no e2.out b2 hbs⟩
  · rw [e1] at q1
    go_upto_region 1 with (go_at_call 91; (with_reducible refine q1.out.mono ?_); rintro e w1 ⟨⟨vn, h9, hv⟩, b1⟩; subst h9)
    obtain ⟨g, cap, rfl⟩ := own_two hv (by simp)
    have hv : w1.ownsRow W.heap.size 3 1 (.slice (some ⟨g, 0, none⟩) 4 cap) 4 (ints [a0, a1, a2, a3]) := hv
    obtain ⟨-, hg0, cur, hB, -, -, -, htk⟩ := OwnAt.parts hv
    have h1 := h.later b1 (upd_agree o W.heap.size 0) (Nat.le_refl m)
    have ogn : updT o W.heap.size 0 g = 0 := if_pos hg0
    have d0 : cur[0]? = some (.int .i64 a0) := by rw [← hB.cell]; exact own_cell hv rfl
    have d1 : cur[1]? = some (.int .i64 a1) := by rw [← hB.cell]; exact own_cell hv rfl
    have d2 : cur[2]? = some (.int .i64 a2) := by rw [← hB.cell]; exact own_cell hv rfl
    have d3 : cur[3]? = some (.int .i64 a3) := by rw [← hB.cell]; exact own_cell hv rfl
    have BR := h1.blk
    have hrow : rowQ q x 8 = some ⟨71, 4, (.slice q.ws.af x.faults.length q.ws.cf), x.faults.length, x.faults.flatMap Slp.cl⟩ := rfl
    obtain ⟨hO, hOm⟩ := h1.ra.rows 8 _ hrow
    have cR : (q.ws.cl x ++ [Value.string last]).toArray[42]? = some (.slice q.ws.af x.faults.length q.ws.cf) := by rw [List.getElem?_toArray]; exact fld42 q.ws x last h.sd
    have KS : Hid (∀ w', Blk w' R 87 (q.ws.cl x ++ [Value.string last]).toArray → Blk w' g 3 cur → w'.cell? ⟨R, 42, none⟩ = some (.slice q.ws.af x.faults.length q.ws.cf) ∧ w'.cell? ⟨g, 0, none⟩ = some (.int .i64 a0) ∧ w'.cell? ⟨g, 1, none⟩ = some (.int .i64 a1) ∧ w'.cell? ⟨g, 2, none⟩ = some (.int .i64 a2) ∧ w'.cell? ⟨g, 3, none⟩ = some (.int .i64 a3)) :=
      Lib.hid (fun w' u1 u2 => ⟨by rw [u1.cell]; exact cR, by rw [u2.cell]; exact d0, by rw [u2.cell]; exact d1, by rw [u2.cell]; exact d2, by rw [u2.cell]; exact d3⟩)
    have BR2 : Blk w1.drew R 87 (q.ws.cl x ++ [Value.string last]).toArray := BR
    have BG2 : Blk w1.drew g 3 cur := hB
    have BR3 : Blk (w1.alloc (.cells #[.int .i64 a0, .int .i64 a1, .int .i64 a2, .int .i64 a3] 71)).drew R 87 (q.ws.cl x ++ [Value.string last]).toArray := BR.alloc _
    have BG3 : Blk (w1.alloc (.cells #[.int .i64 a0, .int .i64 a1, .int .i64 a2, .int .i64 a3] 71)).drew g 3 cur := hB.alloc _
    have hO3 : World.ownsRow (w1.alloc (.cells #[.int .i64 a0, .int .i64 a1, .int .i64 a2, .int .i64 a3] 71)).drew base 71 4 (.slice q.ws.af x.faults.length q.ws.cf) x.faults.length (x.faults.flatMap Slp.cl) := hO.own.alloc _
    have hRd : Rd (w1.alloc (.cells #[.int .i64 a0, .int .i64 a1, .int .i64 a2, .int .i64 a3] 71)).drew _ 4 (some ⟨w1.heap.size, 0, none⟩) 1 [.int .i64 a0, .int .i64 a1, .int .i64 a2, .int .i64 a3] := Rd.new w1 [.int .i64 a0, .int .i64 a1, .int .i64 a2, .int .i64 a3] 71 4 1 _ rfl rfl
    have hone : ∀ u ∈ [Value.int .i64 a0, Value.int .i64 a1, Value.int .i64 a2, Value.int .i64 a3], u.oneCell' = true := by intro u hu; simp at hu; rcases hu with rfl | rfl | rfl | rfl <;> rfl
    have h63 : x.faults.length + 1 ≤ maxLen := by simp only at hOm; unfold maxLen; omega
    have hby : (x.faults.length + 1) * 32 ≤ 140737488355328 := by simp only at hOm; omega
    have hbs3 : base ≤ (World.heap (w1.alloc (.cells #[.int .i64 a0, .int .i64 a1, .int .i64 a2, .int .i64 a3] 71)).drew).size := Nat.le_trans (Nat.le_trans hbs b1.size) (bDr (bAl (bRefl w1) _)).size
    refine wp_region_schK (f := 25) KS [(0, 1), (1, 1), (2, 1), (3, 1), (4, 1), (5, 2), (6, 1), (7, 1), (8, 2), (9, 1), (10, 1), (11, 2), (12, 1), (13, 1), (14, 2), (15, 1), (16, 1), (17, 2), (18, 1), (19, 1), (20, 0), (21, 0), (22, 1), (23, 1), (24, 1), (25, 3)] ?_
    simp only [pickS, List.getElem?_cons_zero, List.getElem?_cons_succ]
    refine wpSched_t ?_
    refine wpSched_t ?_
    refine wpSched_t ?_
    refine wpSched_t ?_
    refine wpSched_t ?_
    refine wpSched_r ?_
    refine wpSched_t ?_
    refine wpSched_t ?_
    refine wpSched_r ?_
    refine wpSched_t ?_
    refine wpSched_t ?_
    refine wpSched_r ?_
    refine wpSched_t ?_
    refine wpSched_t ?_
    refine wpSched_r ?_
    refine wpSched_t ?_
    refine wpSched_t ?_
    refine wpSched_r ?_
    refine wpSched_t ?_
    refine wpSched_t ?_
    refine wpSched_force (fun K hK => ?_)
    first | ((refine step_appendG (.tmp 12) (.tmp 27) 33 base 71 (.agg #[.int .i64 0, .int .i64 0, .int .i64 0, .int .i64 0]) 4 32 (.slice q.ws.af x.faults.length q.ws.cf) x.faults.length (x.faults.flatMap Slp.cl) (some ⟨w1.heap.size, 0, none⟩) 1 1 _ [.int .i64 a0, .int .i64 a1, .int .i64 a2, .int .i64 a3] rfl rfl Tryz.underlying33 slip_info rfl (by omega) rfl hO3 rfl hRd (by intro h; cases h) hone h63 hby hbs3 (fun v1 w2 hown2 hg2 => ?_); obtain ⟨g1, c1, rfl⟩ := ownsRow_succ hown2; have hgr := hg2.pre (bDr (bAl (bRefl w1) _)); have kk := KeepT.of_grew hO hgr; have BR4 := kk.blk BR (by rw [h1.oR]; decide); have BG4 := kk.blk hB (by rw [ogn]; decide))) | (go_simp)
    refine shut_goK hK KS ?_
    clear hK K
    refine wpSched_force (fun K hK => ?_)
    first | ((refine step_appendG (.tmp 12) (.tmp 27) 33 base 71 (.agg #[.int .i64 0, .int .i64 0, .int .i64 0, .int .i64 0]) 4 32 (.slice q.ws.af x.faults.length q.ws.cf) x.faults.length (x.faults.flatMap Slp.cl) (some ⟨w1.heap.size, 0, none⟩) 1 1 _ [.int .i64 a0, .int .i64 a1, .int .i64 a2, .int .i64 a3] rfl rfl Tryz.underlying33 slip_info rfl (by omega) rfl hO3 rfl hRd (by intro h; cases h) hone h63 hby hbs3 (fun v1 w2 hown2 hg2 => ?_); obtain ⟨g1, c1, rfl⟩ := ownsRow_succ hown2; have hgr := hg2.pre (bDr (bAl (bRefl w1) _)); have kk := KeepT.of_grew hO hgr; have BR4 := kk.blk BR (by rw [h1.oR]; decide); have BG4 := kk.blk hB (by rw [ogn]; decide))) | (go_simp)
    refine shut_goK hK KS ?_
    clear hK K
    refine wpSched_t ?_
    refine wpSched_t ?_
    refine wpSched_t ?_
    refine wpSched_last ?_
    first | simp only [List.map_nil] | simp only [List.map_cons, List.map_nil]
    have c4 : w2.cell? ⟨R, 42, none⟩ = some (.slice q.ws.af x.faults.length q.ws.cf) := by rw [BR4.cell]; exact cR
    have f4 := BR4.frozen 42
    have bw : Below base W (w2.setCell ⟨R, 42, none⟩ (.slice (some ⟨g1, 0, none⟩) (x.faults.length + 1) c1)) := ((b1.mono hbs).trans (hgr.below hO.own (Nat.le_trans hbs b1.size))).setCell (p := ⟨R, 42, none⟩) h.bR _
    have hfin : StAt (w2.setCell ⟨R, 42, none⟩ (.slice (some ⟨g1, 0, none⟩) (x.faults.length + 1) c1)) R base (m + 1) (updT (updT o W.heap.size 0) w1.heap.size 8) { q with ws := { q.ws with af := some ⟨g1, 0, none⟩, cf := c1 } } (addR x (10, [a0, a1, a2, a3])) last := by
      refine h1.put (t := 8) hrow (by decide) (by decide) hgr hown2 h1.ra.lq h1.ra.vq ?_ (Nat.succ_le_succ hOm) ?_ h1.ra.rl h1.ra.rv rfl ?_
      · show some _ = some _
        simp [addR, nat_, Slp.cl]
      · intro t' r' ht hr'
        left
        rw [← hr']
        unfold rowQ
        simp only [ht, if_false]
        rfl
      · rw [List.setIfInBounds_toArray]
        refine congrArg List.toArray ?_
        exact set42 q.ws x last h.sd (by rw [ws_split]; simp [addR])
    have hfin := Lib.hid hfin
    clear KS
    go_wp2_with fail
    refine NoPanic.normal ?_
    go_end0
    exact RdPost.yes e2.out hfin.out bw (KeepZ.of b1 (upd_agree o W.heap.size 0) kk (by decide) (by decide) (fun _ h _ => h)) (agree2 b1.size)
section
variable {P : Program} {ops : Array Oper} {Q : Exit → Act → World → Prop} {md : Region.Mode} {S : World → Prop} {f : Nat}
def schedOkU (md : Region.Mode) (ops : Array Oper) (f : Nat) : List (Nat × Nat) → Array Bool → Bool
  | [], _ => true
  | (k, 0) :: s, listed => decide (Region.ready md ops listed = [k]) && schedOkU md ops f s (listed.setIfInBounds k true)
  | (k, 1) :: s, listed => (Region.ready md ops listed).contains k && Region.free md ops listed k && cloB md ops listed && decide (k ≠ f) && schedOkU md ops f s (listed.setIfInBounds k true)
  | (k, 2) :: s, listed => (Region.ready md ops listed).contains k && Region.free md ops listed k && cloB md ops listed && decide (k ≠ f) && roadB md ops f k (findRoad md ops f 6 k) && schedOkU md ops f s (listed.setIfInBounds k true)
  | (k, _) :: s, listed => decide (Region.ready md ops listed = [k]) && (listed.setIfInBounds k true).getD f true && schedOkU md ops f s (listed.setIfInBounds k true)
def wpSchedU (P : Program) (md : Region.Mode) (ops : Array Oper) (Q : Exit → Act → World → Prop) (S : World → Prop) (f g : Nat) (listed : Array Bool) : List (Nat × Oper) → Act → World → Prop
  | [], a, w => wpAnyU P md ops Q S f g listed a w
  | (0, o) :: l, a, w => if Region.wanted o (yielded ops a.tmps) = true then Oper.wp P o a w (fun a' w' => S w' ∧ wpSchedU P md ops Q S f g listed l a' w') Q else (S w ∧ wpSchedU P md ops Q S f g listed l (a.put o.dst undef) w)
  | (1, o) :: l, a, w => ∃ v, YieldsIf P ops (fun _ => True) o v a ∧ wpSchedU P md ops Q S f g listed l (a.put o.dst v) w
  | (2, o) :: l, a, w => ∃ v, YieldsIf P ops S o v a ∧ wpSchedU P md ops Q S f g listed l (a.put o.dst v) w
  | (_, o) :: l, a, w => if Region.wanted o (yielded ops a.tmps) = true then Oper.wp P o a w (fun a' w' => wpSchedU P md ops Q S f g listed l a' w') Q else wpSchedU P md ops Q S f g listed l (a.put o.dst undef) w
theorem schedU_any (hs : Region.noSelect ops = true) (hQ : ∀ d v c a w, Q (.panic c) (Act.put a d v) w → Q (.panic c) a w) (g : Nat) : ∀ (s : List (Nat × Nat)) (listed : Array Bool) (a : Act) (w : World),
    schedOkU md ops f s listed = true → (listed.getD f true = false → S w) → wpSchedU P md ops Q S f g (listedBy s listed) (pickS s ops.toList) a w → wpAnyU P md ops Q S f (s.length + g) listed a w
  | [], listed, a, w, _, _, h => by rw [List.length_nil, Nat.zero_add]; exact h
  | (k, 0) :: s, listed, a, w, hB, hS, h => by
    simp only [schedOkU, Bool.and_eq_true, decide_eq_true_eq] at hB
    obtain ⟨o, ho⟩ := ready_some (md := md) (ops := ops) (listed := listed) (k := k) (by rw [hB.1]; simp)
    have ho' : ops.toList[k]? = some o := by simpa using ho
    simp only [pickS, ho', wpSchedU] at h
    rw [List.length_cons, Nat.add_right_comm]
    refine ⟨fun h0 => (by rw [hB.1] at h0; cases h0), fun j hj => ?_⟩
    rw [hB.1] at hj
    obtain rfl : j = k := by simpa using hj
    have hw : wpOp P ops Q j (fun a' w' => S w' ∧ wpSchedU P md ops Q S f g (listedBy s (listed.setIfInBounds j true)) (pickS s ops.toList) a' w') a w := by
      unfold wpOp
      simp only [ho]
      split at h
      · rename_i c; rw [if_pos c]; exact .inl h
      · rename_i c; rw [if_neg c]; exact h
    exact wpOp_mono (fun a' w' h' => ⟨fun _ => h'.1, schedU_any hs hQ g s _ a' w' hB.2 (fun _ => h'.1) h'.2⟩) hw
  | (k, 1) :: s, listed, a, w, hB, hS, h => by
    simp only [schedOkU, Bool.and_eq_true, decide_eq_true_eq] at hB
    obtain ⟨⟨⟨⟨h1, h2⟩, h3⟩, h4⟩, h5⟩ := hB
    obtain ⟨o, ho⟩ := ready_some (md := md) (ops := ops) (listed := listed) (k := k) (by simpa using h1)
    have ho' : ops.toList[k]? = some o := by simpa using ho
    simp only [pickS, ho', wpSchedU] at h
    obtain ⟨v, hv, h⟩ := h
    rw [List.length_cons, Nat.add_right_comm]
    exact wpAnyU_first (T := fun _ => True) ho (Region.noSelect_spec hs) (hQ _ _) h4 (fun _ _ _ _ _ => trivial) (s.length + g) listed a w (clo_spec h3) (Region.free_spec ho h2) (by simpa using h1) hv hS
      (schedU_any hs hQ g s _ _ w h5 (fun hf => hS (by rw [getD_set_ne true h4] at hf; exact hf)) h)
  | (k, 2) :: s, listed, a, w, hB, hS, h => by
    simp only [schedOkU, Bool.and_eq_true, decide_eq_true_eq] at hB
    obtain ⟨⟨⟨⟨⟨h1, h2⟩, h3⟩, h4⟩, h6⟩, h5⟩ := hB
    obtain ⟨o, ho⟩ := ready_some (md := md) (ops := ops) (listed := listed) (k := k) (by simpa using h1)
    have ho' : ops.toList[k]? = some o := by simpa using ho
    simp only [pickS, ho', wpSchedU] at h
    obtain ⟨v, hv, h⟩ := h
    rw [List.length_cons, Nat.add_right_comm]
    exact wpAnyU_first (T := S) ho (Region.noSelect_spec hs) (hQ _ _) h4 (fun _ _ hc hu hS => hS (road_spec hc _ k h6 hu)) (s.length + g) listed a w (clo_spec h3) (Region.free_spec ho h2) (by simpa using h1) hv hS
      (schedU_any hs hQ g s _ _ w h5 (fun hf => hS (by rw [getD_set_ne true h4] at hf; exact hf)) h)
  | (k, t + 3) :: s, listed, a, w, hB, hS, h => by
    simp only [schedOkU, Bool.and_eq_true, decide_eq_true_eq] at hB
    obtain ⟨⟨h1, h2⟩, h5⟩ := hB
    obtain ⟨o, ho⟩ := ready_some (md := md) (ops := ops) (listed := listed) (k := k) (by rw [h1]; simp)
    have ho' : ops.toList[k]? = some o := by simpa using ho
    simp only [pickS, ho', wpSchedU] at h
    rw [List.length_cons, Nat.add_right_comm]
    refine ⟨fun h0 => (by rw [h1] at h0; cases h0), fun j hj => ?_⟩
    rw [h1] at hj
    obtain rfl : j = k := by simpa using hj
    have hw : wpOp P ops Q j (fun a' w' => wpSchedU P md ops Q S f g (listedBy s (listed.setIfInBounds j true)) (pickS s ops.toList) a' w') a w := by
      unfold wpOp
      simp only [ho]
      split at h
      · rename_i c; rw [if_pos c]; exact .inl h
      · rename_i c; rw [if_neg c]; exact h
    exact wpOp_mono (fun a' w' h' => ⟨fun h0 => (by rw [h2] at h0; cases h0), schedU_any hs hQ g s _ a' w' h5 (fun h0 => (by rw [h2] at h0; cases h0)) h'⟩) hw
theorem wp_region_schU {id : Nat} {l : List Oper} {a : Act} {w : World} (S : World → Prop) (f g : Nat) (s : List (Nat × Nat)) (hS : S w.drew) (h : wpSchedU P .any l.toArray (NoPanic Q) S f g (listedBy s (Array.replicate l.toArray.size false)) (pickS s l) a w.drew)
    (hm : P.follows .mixedOrders = true := by kernel_rfl) (hB : (Region.noSelect l.toArray && (decide (s.length + g = l.toArray.size) && schedOkU .any l.toArray f s (Array.replicate l.toArray.size false))) = true := by kernel_rfl) : (Code.region id l.toArray true).wp P Q a w := by
  simp only [Bool.and_eq_true, decide_eq_true_eq] at hB
  obtain ⟨h1, h2, h3⟩ := hB
  refine wp_region_noPanic (wp_region_any hm ?_)
  have := wpAny_of_until _ _ _ _ (schedU_any (md := .any) (f := f) (Q := NoPanic Q) (ops := l.toArray) h1 (fun _ _ _ _ _ h => h) g s _ a w.drew h3 (fun _ => hS) (by simpa using h))
  rw [h2] at this
  exact this
variable {o : Oper} {l : List (Nat × Oper)} {a a' : Act} {w : World} {v : Value} {g : Nat} {listed : Array Bool}
theorem anyU_rest {lo : List Oper} (s : List (Nat × Nat)) (hS : listed.getD f true = false → S w) (h : wpSchedU P md lo.toArray (NoPanic Q) S f g (listedBy s listed) (pickS s lo) a w)
    (hB : (Region.noSelect lo.toArray && schedOkU md lo.toArray f s listed) = true := by kernel_rfl) : wpAnyU P md lo.toArray (NoPanic Q) S f (s.length + g) listed a w := by
  simp only [Bool.and_eq_true] at hB
  exact schedU_any hB.1 (fun _ _ _ _ _ h => h) g s listed a w hB.2 hS (by simpa using h)
theorem anyU_list {lo : List Oper} (s : List (Nat × Nat)) (h : wpList P lo.toArray Q ((pickS s lo).map (·.2)) a w)
    (hB : (s.all (fun x => decide (3 ≤ x.2)) && schedOk md lo.toArray f s listed) = true := by kernel_rfl) : wpAnyU P md lo.toArray Q S f s.length listed a w := by
  simp only [Bool.and_eq_true] at hB
  exact sched_last s listed a w hB.1 hB.2 (by simpa using h)
theorem wpSchedU_t (h : wpSchedU P md ops Q S f g listed l a' w) (hw : Region.wanted o (yielded ops a.tmps) = true := by rfl)
    (hv : ∀ w, (execOp a.eval o).run P w = .ok (.value v) w := by intro w; go_simp; try with_reducible rfl)
    (ht : a.put o.dst v = a' := by (try simp only [Act.put, List.setIfInBounds_toArray, List.set_cons_zero, List.set_cons_succ]) <;> with_reducible rfl) : wpSchedU P md ops Q S f g listed ((1, o) :: l) a w := by
  subst ht
  exact ⟨v, .inl ⟨hw, fun w _ => hv w⟩, h⟩
theorem wpSchedU_r (h : wpSchedU P md ops Q S f g listed l a' w) (hw : Region.wanted o (yielded ops a.tmps) = true := by rfl)
    (hv : ∀ w, S w → (execOp a.eval o).run P w = .ok (.value v) w := by intro w hSw; go_simp; try with_reducible rfl)
    (ht : a.put o.dst v = a' := by (try simp only [Act.put, List.setIfInBounds_toArray, List.set_cons_zero, List.set_cons_succ]) <;> with_reducible rfl) : wpSchedU P md ops Q S f g listed ((2, o) :: l) a w := by
  subst ht
  exact ⟨v, .inl ⟨hw, hv⟩, h⟩
theorem wpSchedU_force (h : ∀ K' : Act → World → Prop, Shut (∀ a w, S w → (S w → wpSchedU P md ops Q S f g listed l a w) → K' a w) → if Region.wanted o (yielded ops a.tmps) = true then Oper.wp P o a w K' Q else K' (a.put o.dst undef) w) :
    wpSchedU P md ops Q S f g listed ((0, o) :: l) a w := h _ (fun _ _ hS hW => ⟨hS, hW hS⟩)
def ComesU (P : Program) (md : Region.Mode) (ops : Array Oper) (Q : Exit → Act → World → Prop) (S : World → Prop) (f g : Nat) (listed : Array Bool) (i : Nat) (a : Act) (w : World) : Prop :=
  ∃ o, ops[i]? = some o ∧ ∀ K' : Act → World → Prop, Shut (∀ a w, S w → (S w → wpAnyU P md ops Q S f g (listed.setIfInBounds i true) a w) → K' a w) → if Region.wanted o (yielded ops a.tmps) = true then Oper.wp P o a w K' Q else K' (a.put o.dst undef) w
theorem anyU_mem {i : Nat} (h : ComesU P md ops Q S f g listed i a w) : wpOp P ops Q i (fun a' w' => ((listed.setIfInBounds i true).getD f true = false → S w') ∧ wpAnyU P md ops Q S f g (listed.setIfInBounds i true) a' w') a w := by
  obtain ⟨o, ho, h⟩ := h
  exact wpOp_step ho (fun K' hK => h K' (fun a w hS hW => hK a w ⟨fun _ => hS, hW hS⟩))
theorem anyU_one {i : Nat} (h : ComesU P md ops Q S f g listed i a w) (hr : Region.ready md ops listed = [i] := by kernel_rfl) : wpAnyU P md ops Q S f (g + 1) listed a w :=
  ⟨fun h0 => (by rw [hr] at h0; cases h0), fun j hj => by
    rw [hr] at hj
    obtain rfl : j = i := by simpa using hj
    exact anyU_mem h⟩
theorem anyU_two {i j : Nat} (h : ComesU P md ops Q S f g listed i a w) (h' : ComesU P md ops Q S f g listed j a w) (hr : Region.ready md ops listed = [i, j] := by kernel_rfl) : wpAnyU P md ops Q S f (g + 1) listed a w :=
  ⟨fun h0 => (by rw [hr] at h0; cases h0), fun k hk => by
    rw [hr] at hk
    rcases List.mem_cons.1 hk with rfl | hk
    · exact anyU_mem h
    · obtain rfl : k = j := by simpa using hk
      exact anyU_mem h'⟩
end
end Go.Proofs.YtmbopkcmbiommaaGreatDoor
