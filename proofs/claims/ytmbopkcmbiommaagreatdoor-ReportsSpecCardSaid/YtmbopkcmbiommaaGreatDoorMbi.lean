/-
  The reference's Same, of lines and of worlds; walked.
-/
import Derived.Test.YtmbopkcmbiommaaGreatDoorMbh
import Derived.Test.YtmbopkcmbiommaaGreatDoorMap
namespace Go.Proofs.YtmbopkcmbiommaaGreatDoor
open Go Go.RowKit

set_option maxRecDepth 100000 in
set_option maxHeartbeats 8000000 in
theorem same_line (x : Lin) (s t : LS) (W : World) (hA : LinAt W W.heap.size s x) (hB : LinAt W W.heap.size t x) (hs : x.short) :
    Calls Tryz.prog 33 #[.agg (s.cl x).toArray, .agg (t.cl x).toArray] W (Ret (.bool true) W) := by
  obtain ⟨hs0, hs1, hs2, hs3⟩ := hs
  have q0 : Hid (∀ w', Below W.heap.size W w' → Calls Tryz.prog 34 #[.slice s.a0 x.offs.length s.c0, .slice t.a0 x.offs.length t.c0] w' (Ret (.bool true) w')) := Lib.hid (fun w' h => same_ints _ _ _ _ x.offs w' ((hA.r0.below h).more h.size) ((hB.r0.below h).more h.size) hs0)
  have q1 : Hid (∀ w', Below W.heap.size W w' → Calls Tryz.prog 34 #[.slice s.a1 x.legs.length s.c1, .slice t.a1 x.legs.length t.c1] w' (Ret (.bool true) w')) := Lib.hid (fun w' h => same_ints _ _ _ _ x.legs w' ((hA.r1.below h).more h.size) ((hB.r1.below h).more h.size) hs1)
  have hA2 := hA.r2
  have hA3 := hA.r3
  have hB2 := hB.r2
  have hB3 := hB.r3
  clear hA hB
  unfold LS.cl
  have BA := (Blk.new W 56 (s.cl x).toArray _ rfl).alloc (.cells (t.cl x).toArray 56)
  have BB := Blk.new (W.alloc (.cells (s.cl x).toArray 56)) 56 (t.cl x).toArray _ rfl
  have hb := bAl (bAl (bRefl W) (.cells (s.cl x).toArray 56)) (.cells (t.cl x).toArray 56)
  rw [show (W.alloc (.cells (s.cl x).toArray 56)).heap.size = W.heap.size + 1 by simp] at BB
  unfold LS.cl at BA BB hb
  go_enter Tryz.func33, Tryz.ntmps33
  go_upto_region 1 with fail
  generalize (W.alloc _).alloc _ = w1 at *
  have d0 := BA.cell 0
  have d1 := BB.cell 0
  go_upto_region 2 with (first | (go_at_call 34; (with_reducible refine (q0.out _ hb).mono ?_); rintro e w2 ⟨rfl, b2⟩; have BA2 := BA.below b2 BA.lt; have BB2 := BB.below b2 BB.lt; have hb2 := bCall hb b2; have e0 := BA2.cell 1; have e1 := BB2.cell 1) | (go_at_call 34; (with_reducible refine (q1.out _ hb2).mono ?_); rintro e w3 ⟨rfl, b3⟩; have BA3 := BA2.below b3 BA2.lt; have BB3 := BB2.below b3 BB2.lt; have hb3 := bCall hb2 b3; have f0 := BA3.cell 2; have f1 := BB3.cell 2; have g0 := BA3.cell 3; have g1 := BB3.cell 3; have h0 := BA3.cell 4; have h1 := BB3.cell 4; have i0 := BA3.cell 5; have i1 := BB3.cell 5))
  go_loopw [5] (fun i wr => ∃ k : Nat, k ≤ x.rules.length ∧ i = .int .i64 k ∧ Below W.heap.size W wr ∧ Blk wr W.heap.size 56 #[.slice s.a0 x.offs.length s.c0, .slice s.a1 x.legs.length s.c1, .int .i64 x.cls, .int .i64 x.room, .slice s.a2 x.rules.length s.c2, .slice s.a3 x.off.length s.c3] ∧ Blk wr (W.heap.size + 1) 56 #[.slice t.a0 x.offs.length t.c0, .slice t.a1 x.legs.length t.c1, .int .i64 x.cls, .int .i64 x.room, .slice t.a2 x.rules.length t.c2, .slice t.a3 x.off.length t.c3]) (fun i _ => x.rules.length - (intOf i).toNat)
  case atStart => exact ⟨0, Nat.zero_le _, rfl, hb3, BA3, BB3⟩
  case round =>
    clear hb BA BB hb2 BA2 BB2 hb3 BA3 BB3 d0 d1 e0 e1 f0 f1 g0 g1 h0 h1 i0 i1
    obtain ⟨k, hkn, rfl, hb, BA, BB⟩ := hrel
    have t0 := BA.cell 4
    have t1 := BB.cell 4
    by_cases hlt : k < x.rules.length
    · obtain ⟨y, hy⟩ : ∃ y, Hid (x.rules[k]? = some y) := ⟨_, Lib.hid (List.getElem?_eq_getElem hlt)⟩
      have hbz := hb.size
      obtain ⟨b1, o1, e1, l1, L1⟩ := el_load (f := Rl.cl) (fun _ _ => rfl) (hA2.below hb) hlt hy.out Tryz.underlying59 rfl (by kernel_rfl) hbz
      obtain ⟨b2, o2, e2, l2, L2⟩ := el_load (f := Rl.cl) (fun _ _ => rfl) (hB2.below hb) hlt hy.out Tryz.underlying59 rfl (by kernel_rfl) hbz
      have hq := ne_rl y
      generalize y.cl.toArray = X at *
      have i0 : (0 : Int) ≤ (k : Int) := by omega
      have i1 : (k : Int) < (x.rules.length : Int) := by omega
      have e1 := Lib.hid e1
      have KS : Hid (∀ w', Below wr.heap.size wr w' → (Instr.loadAt 59 (.pointer (some ⟨b1, o1 + k * 3, none⟩))).run Tryz.prog w' = .ok (.agg X) w' ∧ (Instr.loadAt 59 (.pointer (some ⟨b2, o2 + k * 3, none⟩))).run Tryz.prog w' = .ok (.agg X) w' ∧ w'.cell? ⟨W.heap.size, 4, none⟩ = some (.slice (some ⟨b1, o1, none⟩) x.rules.length s.c2) ∧ w'.cell? ⟨W.heap.size + 1, 4, none⟩ = some (.slice (some ⟨b2, o2, none⟩) x.rules.length t.c2)) := Lib.hid (fun w' h => ⟨L1 w' h, L2 w' h, ((BA.below h BA.lt).cell 4).trans (by rw [← e1.out]; rfl), ((BB.below h BB.lt).cell 4).trans (by rw [← e2]; rfl)⟩)
      clear L1 L2 e1 e2
      go_upto_region 6 with fail
      refine wp_region_schB (f := 10) KS [(0, 1), (1, 2), (2, 1), (3, 1), (4, 2), (5, 1), (6, 2), (7, 1), (8, 1), (9, 2), (10, 3)] ?_
      simp only [pickS, List.getElem?_cons_zero, List.getElem?_cons_succ]
      refine wpSched_t ?_
      refine wpSched_r ?_
      refine wpSched_t ?_
      refine wpSched_t ?_
      refine wpSched_r (v := ?vq1) (hv := ?hq1) ?_; case hq1 => (intro w hSw; (first | refine (exec_load rfl rfl hSw).trans ?_ | refine (exec_load rfl rfl hSw.1).trans ?_ | refine (exec_load rfl rfl hSw.2.1).trans ?_ | refine (exec_load rfl rfl hSw.2.2.1).trans ?_ | refine (exec_load rfl rfl hSw.2).trans ?_ | refine (exec_load rfl rfl hSw.2.2).trans ?_); with_reducible rfl)
      refine wpSched_t ?_
      refine wpSched_r ?_
      refine wpSched_t ?_
      refine wpSched_t ?_
      refine wpSched_r (v := ?vq2) (hv := ?hq2) ?_; case hq2 => (intro w hSw; (first | refine (exec_load rfl rfl hSw).trans ?_ | refine (exec_load rfl rfl hSw.1).trans ?_ | refine (exec_load rfl rfl hSw.2.1).trans ?_ | refine (exec_load rfl rfl hSw.2.2.1).trans ?_ | refine (exec_load rfl rfl hSw.2).trans ?_ | refine (exec_load rfl rfl hSw.2.2).trans ?_); with_reducible rfl)
      refine wpSched_last ?_
      first | simp only [List.map_nil] | simp only [List.map_cons, List.map_nil]
      clear KS
      go_wp2_with fail
      refine NoPanic.normal ?_
      go_wp2_with fail
      exact ⟨⟨k + 1, by omega, by go_num, bDr hb, BA, BB⟩, by simp [intOf]; omega⟩
    · clear hA2 hB2
      have u0 := BA.cell 5
      have u1 := BB.cell 5
      go_wp2_with fail
      clear u0 u1
      go_loopw [6] (fun i wr => ∃ k : Nat, k ≤ x.off.length ∧ i = .int .i64 k ∧ Below W.heap.size W wr ∧ Blk wr W.heap.size 56 #[.slice s.a0 x.offs.length s.c0, .slice s.a1 x.legs.length s.c1, .int .i64 x.cls, .int .i64 x.room, .slice s.a2 x.rules.length s.c2, .slice s.a3 x.off.length s.c3] ∧ Blk wr (W.heap.size + 1) 56 #[.slice t.a0 x.offs.length t.c0, .slice t.a1 x.legs.length t.c1, .int .i64 x.cls, .int .i64 x.room, .slice t.a2 x.rules.length t.c2, .slice t.a3 x.off.length t.c3]) (fun i _ => x.off.length - (intOf i).toNat)
      case atStart => exact ⟨0, Nat.zero_le _, rfl, hb, BA, BB⟩
      case round =>
        clear hb BA BB t0 t1
        obtain ⟨k, hkn, rfl, hb, BA, BB⟩ := hrel
        have t0 := BA.cell 5
        have t1 := BB.cell 5
        by_cases hlt : k < x.off.length
        · obtain ⟨y, hy⟩ : ∃ y, Hid (x.off[k]? = some y) := ⟨_, Lib.hid (List.getElem?_eq_getElem hlt)⟩
          have hbz := hb.size
          obtain ⟨b1, o1, e1, l1, L1⟩ := el_load (f := Gp.cl) (fun _ _ => rfl) (hA3.below hb) hlt hy.out Tryz.underlying61 rfl (by kernel_rfl) hbz
          obtain ⟨b2, o2, e2, l2, L2⟩ := el_load (f := Gp.cl) (fun _ _ => rfl) (hB3.below hb) hlt hy.out Tryz.underlying61 rfl (by kernel_rfl) hbz
          have hq := ne_gp y
          generalize y.cl.toArray = X at *
          have i0 : (0 : Int) ≤ (k : Int) := by omega
          have i1 : (k : Int) < (x.off.length : Int) := by omega
          have e1 := Lib.hid e1
          have KS : Hid (∀ w', Below wr.heap.size wr w' → (Instr.loadAt 61 (.pointer (some ⟨b1, o1 + k * 2, none⟩))).run Tryz.prog w' = .ok (.agg X) w' ∧ (Instr.loadAt 61 (.pointer (some ⟨b2, o2 + k * 2, none⟩))).run Tryz.prog w' = .ok (.agg X) w' ∧ w'.cell? ⟨W.heap.size, 5, none⟩ = some (.slice (some ⟨b1, o1, none⟩) x.off.length s.c3) ∧ w'.cell? ⟨W.heap.size + 1, 5, none⟩ = some (.slice (some ⟨b2, o2, none⟩) x.off.length t.c3)) := Lib.hid (fun w' h => ⟨L1 w' h, L2 w' h, ((BA.below h BA.lt).cell 5).trans (by rw [← e1.out]; rfl), ((BB.below h BB.lt).cell 5).trans (by rw [← e2]; rfl)⟩)
          clear L1 L2 e1 e2
          go_upto_region 11 with fail
          refine wp_region_schB (f := 10) KS [(0, 1), (1, 2), (2, 1), (3, 1), (4, 2), (5, 1), (6, 2), (7, 1), (8, 1), (9, 2), (10, 3)] ?_
          simp only [pickS, List.getElem?_cons_zero, List.getElem?_cons_succ]
          refine wpSched_t ?_
          refine wpSched_r ?_
          refine wpSched_t ?_
          refine wpSched_t ?_
          refine wpSched_r (v := ?vq3) (hv := ?hq3) ?_; case hq3 => (intro w hSw; (first | refine (exec_load rfl rfl hSw).trans ?_ | refine (exec_load rfl rfl hSw.1).trans ?_ | refine (exec_load rfl rfl hSw.2.1).trans ?_ | refine (exec_load rfl rfl hSw.2.2.1).trans ?_ | refine (exec_load rfl rfl hSw.2).trans ?_ | refine (exec_load rfl rfl hSw.2.2).trans ?_); with_reducible rfl)
          refine wpSched_t ?_
          refine wpSched_r ?_
          refine wpSched_t ?_
          refine wpSched_t ?_
          refine wpSched_r (v := ?vq4) (hv := ?hq4) ?_; case hq4 => (intro w hSw; (first | refine (exec_load rfl rfl hSw).trans ?_ | refine (exec_load rfl rfl hSw.1).trans ?_ | refine (exec_load rfl rfl hSw.2.1).trans ?_ | refine (exec_load rfl rfl hSw.2.2.1).trans ?_ | refine (exec_load rfl rfl hSw.2).trans ?_ | refine (exec_load rfl rfl hSw.2.2).trans ?_); with_reducible rfl)
          refine wpSched_last ?_
          first | simp only [List.map_nil] | simp only [List.map_cons, List.map_nil]
          clear KS
          go_wp2_with fail
          refine NoPanic.normal ?_
          go_wp2_with fail
          exact ⟨⟨k + 1, by omega, by go_num, bDr hb, BA, BB⟩, by simp [intOf]; omega⟩
        · clear hA3 hB3
          go_wp2_with fail
          go_ret
          exact ⟨rfl, hb⟩
-- WORLD
theorem eqItems_same (d : Nat) (a : List Nat) (w : World) : ∀ is : List Nat, (∀ i ∈ is, i < a.length) →
    (Op.eqItems (d + 1) 5 1 (byts a).toArray (byts a).toArray is).run Tryz.prog w = .ok true w
  | [], _ => by simp [Op.eqItems]
  | i :: is, h => by
    have h1 := h i (by simp)
    have ih := eqItems_same d a w is (fun j hj => h j (by simp [hj]))
    have a5 := Tryz.isAgg5
    have x1 : (byts a).toArray[i * 1]? = some (.int .u8 (a.getD i 0 : Nat)) := by simp [byts, h1]
    have p1 : (part 5 (byts a).toArray (i * 1)).run Tryz.prog w = .ok (.int .u8 (a.getD i 0 : Nat)) w := by simp only [part, Sem.run_bind, a5, Result.andThen_ok]; rw [x1]; simp
    simp only [Op.eqItems, Sem.run_bind, p1, Result.andThen_ok, run_equalIn_int w d 5 .u8 .u8 _ _ Tryz.underlying5]
    simpa using ih
theorem ne_dig (a : List Nat) (ha : a.length = 32) (w : World) : (binOp .neq 32 (.agg (byts a).toArray) (.agg (byts a).toArray)).run Tryz.prog w = .ok (.bool false) w := by
  obtain ⟨i0, hi⟩ : ∃ i, Tryz.prog.info? 5 = some i := info_of_underlying Tryz.underlying5
  have hc : Tryz.prog.cellsOf 5 = 1 := by kernel_rfl
  have h2 : (Op.equalIn 10000 32 (.agg (byts a).toArray) (.agg (byts a).toArray)).run Tryz.prog w = .ok true w := by
    rw [show (10000 : Nat) = 9998 + 1 + 1 from rfl, run_equalIn_array w (9998 + 1) _ _ Tryz.underlying32 hi, hc, eqItems_same 9998 a w _ (by intro i hi; have := List.mem_range.1 hi; omega)]
  rw [run_neq_struct, h2]; rfl
/-- Cells of a world. -/
theorem ws_at {s : WS} {x : Wld} {k : Nat} {v : Value} (hv : ([.int .i64 x.offs, .slice s.al x.lines.length s.cl_, .slice s.ab x.base.length s.cb, .slice s.ag x.leg.length s.cg, .slice s.at_ x.tiers.length s.ct, .slice s.ao x.orders.length s.co, .int .i64 x.people, .slice s.ae x.ents.length s.ce, .int .i64 x.covers, .slice s.as_ x.secs.length s.cs] : List Value)[k]? = some v) : (s.cl x).toArray[k]? = some v := by
  rw [List.getElem?_toArray]
  unfold WS.cl
  rw [List.getElem?_append_left (List.getElem?_eq_some_iff.1 hv).1]
  exact hv
theorem ws_last {s : WS} {x : Wld} (h : x.seed.length = 32) : (s.cl x).toArray[42]? = some (.slice s.af x.faults.length s.cf) := by
  have e : (byts x.seed).length = 32 := by rw [byts_length, h]
  rw [List.getElem?_toArray]
  unfold WS.cl
  rw [List.getElem?_append_right (by simp), List.getElem?_append_right (by simp [e])]
  simp [e]
theorem ws_seed {s : WS} {x : Wld} {w : World} {b : Nat} {t : TypeId} (h : x.seed.length = 32) (hB : Blk w b t (s.cl x).toArray) : (Instr.loadAt 32 (.pointer (some ⟨b, 10, none⟩))).run Tryz.prog w = .ok (.agg (byts x.seed).toArray) w := by
  have e : (byts x.seed).length = 32 := by rw [byts_length, h]
  refine run_loadAt_mid w b 10 32 (byts x.seed) _ (fun j v hj => ?_) Tryz.underlying32 rfl (by rw [e]; kernel_rfl)
  rw [hB.cell, List.getElem?_toArray]
  unfold WS.cl
  rw [List.getElem?_append_right (by simp), List.getElem?_append_left (by simp; have := (List.getElem?_eq_some_iff.1 hj).1; omega)]
  simpa using hj
set_option maxRecDepth 100000 in
set_option maxHeartbeats 8000000 in
theorem ref_same (x : Wld) (s t : WS) (W : World) (hA : WldAt W W.heap.size s x) (hB : WldAt W W.heap.size t x) (hs : x.small) :
    Calls Tryz.prog 14 #[.agg (s.cl x).toArray, .agg (t.cl x).toArray] W (Ret (.bool true) W) := by
  have BA := (Blk.new W 35 (s.cl x).toArray _ rfl).alloc (.cells (t.cl x).toArray 35)
  have BB := Blk.new (W.alloc (.cells (s.cl x).toArray 35)) 35 (t.cl x).toArray _ rfl
  have hb := bAl (bAl (bRefl W) (.cells (s.cl x).toArray 35)) (.cells (t.cl x).toArray 35)
  rw [show (W.alloc (.cells (s.cl x).toArray 35)).heap.size = W.heap.size + 1 by simp] at BB
  have hq := ne_dig x.seed hs.seed
  have SA : Hid (∀ w', Below (W.heap.size + 2) ((W.alloc (.cells (s.cl x).toArray 35)).alloc (.cells (t.cl x).toArray 35)) w' → (Instr.loadAt 32 (.pointer (some ⟨W.heap.size, 10, none⟩))).run Tryz.prog w' = .ok (.agg (byts x.seed).toArray) w') := Lib.hid (fun w' h => ws_seed hs.seed (BA.below h (by omega)))
  have SB : Hid (∀ w', Below (W.heap.size + 2) ((W.alloc (.cells (s.cl x).toArray 35)).alloc (.cells (t.cl x).toArray 35)) w' → (Instr.loadAt 32 (.pointer (some ⟨W.heap.size + 1, 10, none⟩))).run Tryz.prog w' = .ok (.agg (byts x.seed).toArray) w') := Lib.hid (fun w' h => ws_seed hs.seed (BB.below h (by omega)))
  have A0 : (s.cl x).toArray[0]? = some _ := ws_at (k := 0) rfl
  have A1 : (s.cl x).toArray[1]? = some _ := ws_at (k := 1) rfl
  have A2 : (s.cl x).toArray[2]? = some _ := ws_at (k := 2) rfl
  have A3 : (s.cl x).toArray[3]? = some _ := ws_at (k := 3) rfl
  have A4 : (s.cl x).toArray[4]? = some _ := ws_at (k := 4) rfl
  have A5 : (s.cl x).toArray[5]? = some _ := ws_at (k := 5) rfl
  have A6 : (s.cl x).toArray[6]? = some _ := ws_at (k := 6) rfl
  have A7 : (s.cl x).toArray[7]? = some _ := ws_at (k := 7) rfl
  have A8 : (s.cl x).toArray[8]? = some _ := ws_at (k := 8) rfl
  have A9 : (s.cl x).toArray[9]? = some _ := ws_at (k := 9) rfl
  have A10 : (s.cl x).toArray[42]? = some _ := ws_last hs.seed
  have B0 : (t.cl x).toArray[0]? = some _ := ws_at (k := 0) rfl
  have B1 : (t.cl x).toArray[1]? = some _ := ws_at (k := 1) rfl
  have B2 : (t.cl x).toArray[2]? = some _ := ws_at (k := 2) rfl
  have B3 : (t.cl x).toArray[3]? = some _ := ws_at (k := 3) rfl
  have B4 : (t.cl x).toArray[4]? = some _ := ws_at (k := 4) rfl
  have B5 : (t.cl x).toArray[5]? = some _ := ws_at (k := 5) rfl
  have B6 : (t.cl x).toArray[6]? = some _ := ws_at (k := 6) rfl
  have B7 : (t.cl x).toArray[7]? = some _ := ws_at (k := 7) rfl
  have B8 : (t.cl x).toArray[8]? = some _ := ws_at (k := 8) rfl
  have B9 : (t.cl x).toArray[9]? = some _ := ws_at (k := 9) rfl
  have B10 : (t.cl x).toArray[42]? = some _ := ws_last hs.seed
  generalize (s.cl x).toArray = X at *
  generalize (t.cl x).toArray = Y at *
  obtain ⟨la, la1, la2, la3⟩ := hA.rl
  obtain ⟨lb, lb1, lb2, lb3⟩ := hB.rl
  obtain ⟨va, va1, va2, va3⟩ := hA.ro
  obtain ⟨vb, vb1, vb2, vb3⟩ := hB.ro
  have rtA := hA.rt
  have rtB := hB.rt
  have rfA := hA.rf
  have rfB := hB.rf
  have Q0 : Hid (∀ w', Below W.heap.size W w' → Calls Tryz.prog 34 #[.slice s.ab x.base.length s.cb, .slice t.ab x.base.length t.cb] w' (Ret (.bool true) w')) := Lib.hid (fun w' h => same_ints _ _ _ _ x.base w' ((hA.rb.below h).more h.size) ((hB.rb.below h).more h.size) hs.base)
  have Q1 : Hid (∀ w', Below W.heap.size W w' → Calls Tryz.prog 34 #[.slice s.ag x.leg.length s.cg, .slice t.ag x.leg.length t.cg] w' (Ret (.bool true) w')) := Lib.hid (fun w' h => same_ints _ _ _ _ x.leg w' ((hA.rg.below h).more h.size) ((hB.rg.below h).more h.size) hs.leg)
  have Q4 : Hid (∀ w', Below W.heap.size W w' → Calls Tryz.prog 34 #[.slice s.as_ x.secs.length s.cs, .slice t.as_ x.secs.length t.cs] w' (Ret (.bool true) w')) := Lib.hid (fun w' h => same_ints _ _ _ _ x.secs w' ((hA.rs.below h).more h.size) ((hB.rs.below h).more h.size) hs.secs)
  have Q3 : Hid (∀ w', Below W.heap.size W w' → Calls Tryz.prog 36 #[.slice s.ae x.ents.length s.ce, .slice t.ae x.ents.length t.ce] w' (Ret (.bool true) w')) := Lib.hid (fun w' h => same_ents _ _ _ _ x.ents w' ((hA.re.below h).more h.size) ((hB.re.below h).more h.size) hs.ents)
  have Q2 : Hid (∀ w', Below W.heap.size W w' → Calls Tryz.prog 35 #[.slice s.ao x.orders.length s.co, .slice t.ao x.orders.length t.co] w' (Ret (.bool true) w')) := Lib.hid (fun w' h => same_orders _ _ _ _ x.orders va vb w' ((va2.below h).more h.size) ((vb2.below h).more h.size) va1 vb1
    (fun k y hy => by obtain ⟨A, c, e, r⟩ := va3 k y hy; exact ⟨A, c, e, (r.below h).more h.size⟩) (fun k y hy => by obtain ⟨A, c, e, r⟩ := vb3 k y hy; exact ⟨A, c, e, (r.below h).more h.size⟩) hs.orders (fun o ho => (hs.order o ho).1))
  have hn0 := hs.lines
  have hn1 := hs.tiers
  have hn2 := hs.faults
  clear hA hB
  go_enter Tryz.func14, Tryz.ntmps14
  go_upto_region 1 with fail
  have hz1 : ((W.alloc (.cells X 35)).alloc (.cells Y 35)).heap.size = W.heap.size + 2 := by simp
  generalize (W.alloc (.cells X 35)).alloc (.cells Y 35) = w1 at *
  have a3 := (BA.cell 6).trans A6
  have b3 := (BB.cell 6).trans B6
  have a5 := (BA.cell 8).trans A8
  have b5 := (BB.cell 8).trans B8
  have a0 := (BA.cell 0).trans A0
  have b0 := (BB.cell 0).trans B0
  have a1 := (BA.cell 1).trans A1
  have b1 := (BB.cell 1).trans B1
  have a4 := (BA.cell 4).trans A4
  have b4 := (BB.cell 4).trans B4
  have a42 := (BA.cell 42).trans A10
  have b42 := (BB.cell 42).trans B10
  apply wp_region_lit
  iterate 36 go_step
  refine wpList_loadG (by rfl) (by rfl) (by rfl) (SA.out _ (by rw [← hz1]; exact bRefl _)) ?_
  simp only [Act.put]
  iterate 2 go_step
  refine wpList_loadG (by rfl) (by rfl) (by rfl) (SB.out _ (by rw [← hz1]; exact bRefl _)) ?_
  simp only [Act.put]
  go_wp2_with fail
  go_loopw [5] (fun i wr => ∃ k : Nat, k ≤ x.lines.length ∧ i = .int .i64 k ∧ Below W.heap.size W wr ∧ Blk wr W.heap.size 35 X ∧ Blk wr (W.heap.size + 1) 35 Y) (fun i _ => x.lines.length - (intOf i).toNat)
  case atStart => exact ⟨0, Nat.zero_le _, rfl, hb, BA, BB⟩
  case round =>
    clear hb BA BB a3 b3 a5 b5 a0 b0 a1 b1 a4 b4 a42 b42
    obtain ⟨k, hkn, rfl, hb, BA, BB⟩ := hrel
    have t0 := (BA.cell 1).trans A1
    have t1 := (BB.cell 1).trans B1
    by_cases hlt : k < x.lines.length
    · obtain ⟨y, hy⟩ : ∃ y, Hid (x.lines[k]? = some y) := ⟨_, Lib.hid (List.getElem?_eq_getElem hlt)⟩
      have hbz := hb.size
      obtain ⟨p, ep, rp⟩ := la3 k y hy.out
      obtain ⟨q, eq, rq⟩ := lb3 k y hy.out
      have za : (la.zip x.lines)[k]? = some (p, y) := by rw [List.getElem?_zip_eq_some]; exact ⟨ep, hy.out⟩
      have zb : (lb.zip x.lines)[k]? = some (q, y) := by rw [List.getElem?_zip_eq_some]; exact ⟨eq, hy.out⟩
      obtain ⟨c1, o1, e1, l1, L1⟩ := el_load (f := fun p : LS × Lin => p.1.cl p.2) (fun _ _ => rfl) (la2.below hb) hlt za Tryz.underlying56 rfl (by kernel_rfl) hbz
      obtain ⟨c2, o2, e2, l2, L2⟩ := el_load (f := fun p : LS × Lin => p.1.cl p.2) (fun _ _ => rfl) (lb2.below hb) hlt zb Tryz.underlying56 rfl (by kernel_rfl) hbz
      have q0 : Hid (∀ w', Below wr.heap.size wr w' → Calls Tryz.prog 33 #[.agg (p.cl y).toArray, .agg (q.cl y).toArray] w' (Ret (.bool true) w')) := Lib.hid (fun w' h => same_line y p q w' (((rp.below hb).below (h.mono hbz)).more (Nat.le_trans hbz h.size)) (((rq.below hb).below (h.mono hbz)).more (Nat.le_trans hbz h.size)) (hs.line y (List.mem_of_getElem? hy.out)))
      dsimp only at L1 L2
      generalize (p.cl y).toArray = Z1 at *
      generalize (q.cl y).toArray = Z2 at *
      clear ep eq rp rq za zb
      have i0 : (0 : Int) ≤ (k : Int) := by omega
      have i1 : (k : Int) < (x.lines.length : Int) := by omega
      replace e1 := Lib.hid e1
      have KS : Hid (∀ w', Below wr.heap.size wr w' → (Instr.loadAt 56 (.pointer (some ⟨c1, o1 + k * 6, none⟩))).run Tryz.prog w' = .ok (.agg Z1) w' ∧ (Instr.loadAt 56 (.pointer (some ⟨c2, o2 + k * 6, none⟩))).run Tryz.prog w' = .ok (.agg Z2) w' ∧ w'.cell? ⟨W.heap.size, 1, none⟩ = some (.slice (some ⟨c1, o1, none⟩) x.lines.length s.cl_) ∧ w'.cell? ⟨W.heap.size + 1, 1, none⟩ = some (.slice (some ⟨c2, o2, none⟩) x.lines.length t.cl_)) := Lib.hid (fun w' h => ⟨L1 w' h, L2 w' h, ((BA.below h BA.lt).cell 1).trans (by rw [← e1.out]; exact A1), ((BB.below h BB.lt).cell 1).trans (by rw [← e2]; exact B1)⟩)
      clear L1 L2 e1 e2
      go_upto_region 6 with fail
      refine wp_region_schB (f := 13) KS [(0, 1), (1, 1), (2, 2), (3, 1), (4, 1), (5, 2), (6, 1), (7, 1), (8, 2), (9, 1), (10, 1), (11, 2), (12, 0), (13, 3)] ?_
      simp only [pickS, List.getElem?_cons_zero, List.getElem?_cons_succ]
      refine wpSched_t ?_
      refine wpSched_t ?_
      refine wpSched_r ?_
      refine wpSched_t ?_
      refine wpSched_t ?_
      refine wpSched_r (v := ?vq5) (hv := ?hq5) ?_; case hq5 => (intro w hSw; (first | refine (exec_load rfl rfl hSw).trans ?_ | refine (exec_load rfl rfl hSw.1).trans ?_ | refine (exec_load rfl rfl hSw.2.1).trans ?_ | refine (exec_load rfl rfl hSw.2.2.1).trans ?_ | refine (exec_load rfl rfl hSw.2).trans ?_ | refine (exec_load rfl rfl hSw.2.2).trans ?_); with_reducible rfl)
      refine wpSched_t ?_
      refine wpSched_t ?_
      refine wpSched_r ?_
      refine wpSched_t ?_
      refine wpSched_t ?_
      refine wpSched_r (v := ?vq6) (hv := ?hq6) ?_; case hq6 => (intro w hSw; (first | refine (exec_load rfl rfl hSw).trans ?_ | refine (exec_load rfl rfl hSw.1).trans ?_ | refine (exec_load rfl rfl hSw.2.1).trans ?_ | refine (exec_load rfl rfl hSw.2.2.1).trans ?_ | refine (exec_load rfl rfl hSw.2).trans ?_ | refine (exec_load rfl rfl hSw.2.2).trans ?_); with_reducible rfl)
      refine wpSched_force (fun K hK => ?_)
      go_simp; (first | (go_at_call 33; (with_reducible refine (q0.out _ (bDr (bRefl _))).mono ?_); rintro e w6 ⟨rfl, b6⟩; have B6x : Below wr.heap.size wr w6 := bCall (bDr (bRefl _)) b6) | skip)
      refine shut_go hK KS ?_
      clear hK K
      refine wpSched_last ?_
      first | simp only [List.map_nil] | simp only [List.map_cons, List.map_nil]
      clear KS
      go_wp2_with fail
      refine NoPanic.normal ?_
      go_wp2_with fail
      exact ⟨⟨k + 1, by omega, by go_num, hb.trans (B6x.mono hbz), BA.below B6x BA.lt, BB.below B6x BB.lt⟩, by simp [intOf]; omega⟩
    · have u0 := (BA.cell 4).trans A4
      have u1 := (BB.cell 4).trans B4
      go_wp2_with fail
      go_loopw [6] (fun i wr => ∃ k : Nat, k ≤ x.tiers.length ∧ i = .int .i64 k ∧ Below W.heap.size W wr ∧ Blk wr W.heap.size 35 X ∧ Blk wr (W.heap.size + 1) 35 Y) (fun i _ => x.tiers.length - (intOf i).toNat)
      case atStart => exact ⟨0, Nat.zero_le _, rfl, hb, BA, BB⟩
      case round =>
        clear hb BA BB t0 t1 u0 u1
        obtain ⟨k, hkn, rfl, hb, BA, BB⟩ := hrel
        have t0 := (BA.cell 4).trans A4
        have t1 := (BB.cell 4).trans B4
        by_cases hlt : k < x.tiers.length
        · obtain ⟨y, hy⟩ : ∃ y, Hid (x.tiers[k]? = some y) := ⟨_, Lib.hid (List.getElem?_eq_getElem hlt)⟩
          have hbz := hb.size
          obtain ⟨c1, o1, e1, l1, L1⟩ := el_load (f := Tie.cl) (fun _ _ => rfl) (rtA.below hb) hlt hy.out Tryz.underlying63 rfl (by kernel_rfl) hbz
          obtain ⟨c2, o2, e2, l2, L2⟩ := el_load (f := Tie.cl) (fun _ _ => rfl) (rtB.below hb) hlt hy.out Tryz.underlying63 rfl (by kernel_rfl) hbz
          have hq2 := ne_tie y
          generalize hZ : y.cl.toArray = Z1 at *
          have i0 : (0 : Int) ≤ (k : Int) := by omega
          have i1 : (k : Int) < (x.tiers.length : Int) := by omega
          replace e1 := Lib.hid e1
          have KS : Hid (∀ w', Below wr.heap.size wr w' → (Instr.loadAt 63 (.pointer (some ⟨c1, o1 + k * 2, none⟩))).run Tryz.prog w' = .ok (.agg Z1) w' ∧ (Instr.loadAt 63 (.pointer (some ⟨c2, o2 + k * 2, none⟩))).run Tryz.prog w' = .ok (.agg Z1) w' ∧ w'.cell? ⟨W.heap.size, 4, none⟩ = some (.slice (some ⟨c1, o1, none⟩) x.tiers.length s.ct) ∧ w'.cell? ⟨W.heap.size + 1, 4, none⟩ = some (.slice (some ⟨c2, o2, none⟩) x.tiers.length t.ct)) := Lib.hid (fun w' h => ⟨L1 w' h, L2 w' h, ((BA.below h BA.lt).cell 4).trans (by rw [← e1.out]; exact A4), ((BB.below h BB.lt).cell 4).trans (by rw [← e2]; exact B4)⟩)
          clear L1 L2 e1 e2
          go_upto_region 11 with fail
          refine wp_region_schB (f := 12) KS [(0, 1), (1, 1), (2, 2), (3, 1), (4, 1), (5, 2), (6, 1), (7, 1), (8, 2), (9, 1), (10, 1), (11, 2), (12, 3)] ?_
          simp only [pickS, List.getElem?_cons_zero, List.getElem?_cons_succ]
          refine wpSched_t ?_
          refine wpSched_t ?_
          refine wpSched_r ?_
          refine wpSched_t ?_
          refine wpSched_t ?_
          refine wpSched_r (v := ?vq7) (hv := ?hq7) ?_; case hq7 => (intro w hSw; (first | refine (exec_load rfl rfl hSw).trans ?_ | refine (exec_load rfl rfl hSw.1).trans ?_ | refine (exec_load rfl rfl hSw.2.1).trans ?_ | refine (exec_load rfl rfl hSw.2.2.1).trans ?_ | refine (exec_load rfl rfl hSw.2).trans ?_ | refine (exec_load rfl rfl hSw.2.2).trans ?_); with_reducible rfl)
          refine wpSched_t ?_
          refine wpSched_t ?_
          refine wpSched_r ?_
          refine wpSched_t ?_
          refine wpSched_t ?_
          refine wpSched_r (v := ?vq8) (hv := ?hq8) ?_; case hq8 => (intro w hSw; (first | refine (exec_load rfl rfl hSw).trans ?_ | refine (exec_load rfl rfl hSw.1).trans ?_ | refine (exec_load rfl rfl hSw.2.1).trans ?_ | refine (exec_load rfl rfl hSw.2.2.1).trans ?_ | refine (exec_load rfl rfl hSw.2).trans ?_ | refine (exec_load rfl rfl hSw.2.2).trans ?_); with_reducible rfl)
          refine wpSched_last ?_
          first | simp only [List.map_nil] | simp only [List.map_cons, List.map_nil]
          clear KS
          go_wp2_with fail
          refine NoPanic.normal ?_
          go_wp2_with fail
          exact ⟨⟨k + 1, by omega, by go_num, bDr hb, BA, BB⟩, by simp [intOf]; omega⟩
        · have u0 := (BA.cell 42).trans A10
          have u1 := (BB.cell 42).trans B10
          go_wp2_with fail
          go_loopw [7] (fun i wr => ∃ k : Nat, k ≤ x.faults.length ∧ i = .int .i64 k ∧ Below W.heap.size W wr ∧ Blk wr W.heap.size 35 X ∧ Blk wr (W.heap.size + 1) 35 Y) (fun i _ => x.faults.length - (intOf i).toNat)
          case atStart => exact ⟨0, Nat.zero_le _, rfl, hb, BA, BB⟩
          case round =>
            clear hb BA BB t0 t1 u0 u1
            obtain ⟨k, hkn, rfl, hb, BA, BB⟩ := hrel
            have t0 := (BA.cell 42).trans A10
            have t1 := (BB.cell 42).trans B10
            by_cases hlt : k < x.faults.length
            · obtain ⟨y, hy⟩ : ∃ y, Hid (x.faults[k]? = some y) := ⟨_, Lib.hid (List.getElem?_eq_getElem hlt)⟩
              have hbz := hb.size
              obtain ⟨c1, o1, e1, l1, L1⟩ := el_load (f := Slp.cl) (fun _ _ => rfl) (rfA.below hb) hlt hy.out Tryz.underlying71 rfl (by kernel_rfl) hbz
              obtain ⟨c2, o2, e2, l2, L2⟩ := el_load (f := Slp.cl) (fun _ _ => rfl) (rfB.below hb) hlt hy.out Tryz.underlying71 rfl (by kernel_rfl) hbz
              have hq2 := ne_slp y
              generalize hZ : y.cl.toArray = Z1 at *
              have i0 : (0 : Int) ≤ (k : Int) := by omega
              have i1 : (k : Int) < (x.faults.length : Int) := by omega
              replace e1 := Lib.hid e1
              have KS : Hid (∀ w', Below wr.heap.size wr w' → (Instr.loadAt 71 (.pointer (some ⟨c1, o1 + k * 4, none⟩))).run Tryz.prog w' = .ok (.agg Z1) w' ∧ (Instr.loadAt 71 (.pointer (some ⟨c2, o2 + k * 4, none⟩))).run Tryz.prog w' = .ok (.agg Z1) w' ∧ w'.cell? ⟨W.heap.size, 42, none⟩ = some (.slice (some ⟨c1, o1, none⟩) x.faults.length s.cf) ∧ w'.cell? ⟨W.heap.size + 1, 42, none⟩ = some (.slice (some ⟨c2, o2, none⟩) x.faults.length t.cf)) := Lib.hid (fun w' h => ⟨L1 w' h, L2 w' h, ((BA.below h BA.lt).cell 42).trans (by rw [← e1.out]; exact A10), ((BB.below h BB.lt).cell 42).trans (by rw [← e2]; exact B10)⟩)
              clear L1 L2 e1 e2
              go_upto_region 16 with fail
              refine wp_region_schB (f := 10) KS [(0, 1), (1, 2), (2, 1), (3, 1), (4, 2), (5, 1), (6, 2), (7, 1), (8, 1), (9, 2), (10, 3)] ?_
              simp only [pickS, List.getElem?_cons_zero, List.getElem?_cons_succ]
              refine wpSched_t ?_
              refine wpSched_r ?_
              refine wpSched_t ?_
              refine wpSched_t ?_
              refine wpSched_r (v := ?vq9) (hv := ?hq9) ?_; case hq9 => (intro w hSw; (first | refine (exec_load rfl rfl hSw).trans ?_ | refine (exec_load rfl rfl hSw.1).trans ?_ | refine (exec_load rfl rfl hSw.2.1).trans ?_ | refine (exec_load rfl rfl hSw.2.2.1).trans ?_ | refine (exec_load rfl rfl hSw.2).trans ?_ | refine (exec_load rfl rfl hSw.2.2).trans ?_); with_reducible rfl)
              refine wpSched_t ?_
              refine wpSched_r ?_
              refine wpSched_t ?_
              refine wpSched_t ?_
              refine wpSched_r (v := ?vq10) (hv := ?hq10) ?_; case hq10 => (intro w hSw; (first | refine (exec_load rfl rfl hSw).trans ?_ | refine (exec_load rfl rfl hSw.1).trans ?_ | refine (exec_load rfl rfl hSw.2.1).trans ?_ | refine (exec_load rfl rfl hSw.2.2.1).trans ?_ | refine (exec_load rfl rfl hSw.2).trans ?_ | refine (exec_load rfl rfl hSw.2.2).trans ?_); with_reducible rfl)
              refine wpSched_last ?_
              first | simp only [List.map_nil] | simp only [List.map_cons, List.map_nil]
              clear KS
              go_wp2_with fail
              refine NoPanic.normal ?_
              go_wp2_with fail
              exact ⟨⟨k + 1, by omega, by go_num, bDr hb, BA, BB⟩, by simp [intOf]; omega⟩
            · have e0 := (BA.cell 2).trans A2
              have e1 := (BB.cell 2).trans B2
              go_wp2_with (first | (go_at_call 34; (with_reducible refine (Q0.out _ hb).mono ?_); rintro e v1 ⟨rfl, d1⟩; have hc1 := bCall hb d1; have BA1 := BA.below d1 BA.lt; have BB1 := BB.below d1 BB.lt; have f1 := (BA1.cell 3).trans A3; have g1 := (BB1.cell 3).trans B3) | (go_at_call 34; (with_reducible refine (Q1.out _ hc1).mono ?_); rintro e v2 ⟨rfl, d2⟩; have hc2 := bCall hc1 d2; have BA2 := BA1.below d2 BA1.lt; have BB2 := BB1.below d2 BB1.lt; have f2 := (BA2.cell 5).trans A5; have g2 := (BB2.cell 5).trans B5) | (go_at_call 35; (with_reducible refine (Q2.out _ hc2).mono ?_); rintro e v3 ⟨rfl, d3⟩; have hc3 := bCall hc2 d3; have BA3 := BA2.below d3 BA2.lt; have BB3 := BB2.below d3 BB2.lt; have f3 := (BA3.cell 7).trans A7; have g3 := (BB3.cell 7).trans B7) | (go_at_call 36; (with_reducible refine (Q3.out _ hc3).mono ?_); rintro e v4 ⟨rfl, d4⟩; have hc4 := bCall hc3 d4; have BA4 := BA3.below d4 BA3.lt; have BB4 := BB3.below d4 BB3.lt; have f4 := (BA4.cell 9).trans A9; have g4 := (BB4.cell 9).trans B9) | (go_at_call 34; (with_reducible refine (Q4.out _ hc4).mono ?_); rintro e v5 ⟨rfl, d5⟩; have hc5 := bCall hc4 d5))
              go_ret
              exact ⟨rfl, hc5⟩
end Go.Proofs.YtmbopkcmbiommaaGreatDoor
