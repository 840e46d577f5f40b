/- The reference's Same, of lines and of worlds; walked. -/
import Derived.Test.YtmbopkcmbiommaaGreatDoorRbl
import Derived.Test.YtmbopkcmbiommaaGreatDoorRao
import Derived.Test.YtmbopkcmbiommaaGreatDoorRbm
import Derived.Test.YtmbopkcmbiommaaGreatDoorRbn
import Derived.Test.YtmbopkcmbiommaaGreatDoorRap
import Derived.Test.YtmbopkcmbiommaaGreatDoorRbk
import Derived.Test.YtmbopkcmbiommaaGreatDoorRax
import Derived.Test.YtmbopkcmbiommaaGreatDoorRaw
import Derived.Great.Frames
set_option maxRecDepth 1000000
set_option maxHeartbeats 16000000
namespace Go.Proofs.YtmbopkcmbiommaaGreatDoor
open Go Go.RowKit
theorem same_line (x : Lin) (s t : LS) (W : World) (hA : LinAt W W.heap.size s x) (hB : LinAt W W.heap.size t x) (hs : x.short) :
    Calls Tryz.prog 33 #[.agg (s.cl x).toArray, .agg (t.cl x).toArray] W (Ret (.bool true) W) := by
  obtain ⟨hs0, hs1, hs2, hs3⟩ := hs
  have q0 : Hid (∀ w', Below W.heap.size W w' → Calls Tryz.prog 34 #[.slice s.a0 x.offs.length s.c0, .slice t.a0 x.offs.length t.c0] w' (Ret (.bool true) w')) := Lib.hid (fun w' h => same_ints _ _ _ _ x.offs w' ((hA.r0.below h).more h.size) ((hB.r0.below h).more h.size) hs0)
  have q1 : Hid (∀ w', Below W.heap.size W w' → Calls Tryz.prog 34 #[.slice s.a1 x.legs.length s.c1, .slice t.a1 x.legs.length t.c1] w' (Ret (.bool true) w')) := Lib.hid (fun w' h => same_ints _ _ _ _ x.legs w' ((hA.r1.below h).more h.size) ((hB.r1.below h).more h.size) hs1)
  have hA2 := hA.r2
  have hA3 := hA.r3
  have hB2 := hB.r2
  have hB3 := hB.r3
  clear hA hB
  unfold LS.cl
  have BA := (Blk.new W 56 (s.cl x).toArray _ rfl).alloc (.cells (t.cl x).toArray 56)
  have BB := Blk.new (W.alloc (.cells (s.cl x).toArray 56)) 56 (t.cl x).toArray _ rfl
  have hb := bAl (bAl (bRefl W) (.cells (s.cl x).toArray 56)) (.cells (t.cl x).toArray 56)
  rw [show (W.alloc (.cells (s.cl x).toArray 56)).heap.size = W.heap.size + 1 by simp] at BB
  unfold LS.cl at BA BB hb
  go_enter Tryz.func33, Tryz.ntmps33
  go_upto_region 1 with fail
  generalize (W.alloc _).alloc _ = w1 at *
  have d0 := BA.cell 0
  have d1 := BB.cell 0
  go_upto_region 2 with (first | (go_at_call 34; (with_reducible refine (q0.out _ hb).mono ?_); rintro e w2 ⟨rfl, b2⟩; have BA2 := BA.below b2 BA.lt; have BB2 := BB.below b2 BB.lt; have hb2 := bCall hb b2; have e0 := BA2.cell 1; have e1 := BB2.cell 1) | (go_at_call 34; (with_reducible refine (q1.out _ hb2).mono ?_); rintro e w3 ⟨rfl, b3⟩; have BA3 := BA2.below b3 BA2.lt; have BB3 := BB2.below b3 BB2.lt; have hb3 := bCall hb2 b3; have f0 := BA3.cell 2; have f1 := BB3.cell 2; have g0 := BA3.cell 3; have g1 := BB3.cell 3; have h0 := BA3.cell 4; have h1 := BB3.cell 4; have i0 := BA3.cell 5; have i1 := BB3.cell 5))
  go_loopw [5] (fun i wr => ∃ k : Nat, k ≤ x.rules.length ∧ i = .int .i64 k ∧ Below W.heap.size W wr ∧ Blk wr W.heap.size 56 #[.slice s.a0 x.offs.length s.c0, .slice s.a1 x.legs.length s.c1, .int .i64 x.cls, .int .i64 x.room, .slice s.a2 x.rules.length s.c2, .slice s.a3 x.off.length s.c3] ∧ Blk wr (W.heap.size + 1) 56 #[.slice t.a0 x.offs.length t.c0, .slice t.a1 x.legs.length t.c1, .int .i64 x.cls, .int .i64 x.room, .slice t.a2 x.rules.length t.c2, .slice t.a3 x.off.length t.c3]) (fun i _ => x.rules.length - (intOf i).toNat)
  case atStart => exact ⟨0, Nat.zero_le _, rfl, hb3, BA3, BB3⟩
  case round =>
    clear hb BA BB hb2 BA2 BB2 hb3 BA3 BB3 d0 d1 e0 e1 f0 f1 g0 g1 h0 h1 i0 i1
    obtain ⟨k, hkn, rfl, hb, BA, BB⟩ := hrel
    have t0 := BA.cell 4
    have t1 := BB.cell 4
    by_cases hlt : k < x.rules.length
    · obtain ⟨y, hy⟩ : ∃ y, Hid (x.rules[k]? = some y) := ⟨_, Lib.hid (List.getElem?_eq_getElem hlt)⟩
      have hbz := hb.size
      obtain ⟨b1, o1, e1, l1, L1⟩ := el_load (f := Rl.cl) (fun _ _ => rfl) (hA2.below hb) hlt hy.out Tryz.underlying59 rfl (by kernel_rfl) hbz
      obtain ⟨b2, o2, e2, l2, L2⟩ := el_load (f := Rl.cl) (fun _ _ => rfl) (hB2.below hb) hlt hy.out Tryz.underlying59 rfl (by kernel_rfl) hbz
      have hq := ne_rl y
      generalize y.cl.toArray = X at *
      have i0 : (0 : Int) ≤ (k : Int) := by omega
      have i1 : (k : Int) < (x.rules.length : Int) := by omega
      have e1 := Lib.hid e1
      have KS : Hid (∀ w', Below wr.heap.size wr w' → (Instr.loadAt 59 (.pointer (some ⟨b1, o1 + k * 3, none⟩))).run Tryz.prog w' = .ok (.agg X) w' ∧ (Instr.loadAt 59 (.pointer (some ⟨b2, o2 + k * 3, none⟩))).run Tryz.prog w' = .ok (.agg X) w' ∧ w'.cell? ⟨W.heap.size, 4, none⟩ = some (.slice (some ⟨b1, o1, none⟩) x.rules.length s.c2) ∧ w'.cell? ⟨W.heap.size + 1, 4, none⟩ = some (.slice (some ⟨b2, o2, none⟩) x.rules.length t.c2)) := Lib.hid (fun w' h => ⟨L1 w' h, L2 w' h, ((BA.below h BA.lt).cell 4).trans (by rw [← e1.out]; rfl), ((BB.below h BB.lt).cell 4).trans (by rw [← e2]; rfl)⟩)
      clear L1 L2 e1 e2
      go_upto_region 6 with fail
      refine wp_region_schB (f := 10) KS [(0, 1), (1, 2), (2, 1), (3, 1), (4, 2), (5, 1), (6, 2), (7, 1), (8, 1), (9, 2), (10, 3)] ?_
      simp only [pickS, List.getElem?_cons_zero, List.getElem?_cons_succ]
      refine wpSched_t ?_
      refine wpSched_r ?_
      refine wpSched_t ?_
      refine wpSched_t ?_
      refine wpSched_r (v := ?vq1) (hv := ?hq1) ?_; case hq1 => (intro w hSw; (first | refine (exec_load rfl rfl hSw).trans ?_ | refine (exec_load rfl rfl hSw.1).trans ?_ | refine (exec_load rfl rfl hSw.2.1).trans ?_ | refine (exec_load rfl rfl hSw.2.2.1).trans ?_ | refine (exec_load rfl rfl hSw.2).trans ?_ | refine (exec_load rfl rfl hSw.2.2).trans ?_); with_reducible rfl)
      refine wpSched_t ?_
      refine wpSched_r ?_
      refine wpSched_t ?_
      refine wpSched_t ?_
      refine wpSched_r (v := ?vq2) (hv := ?hq2) ?_; case hq2 => (intro w hSw; (first | refine (exec_load rfl rfl hSw).trans ?_ | refine (exec_load rfl rfl hSw.1).trans ?_ | refine (exec_load rfl rfl hSw.2.1).trans ?_ | refine (exec_load rfl rfl hSw.2.2.1).trans ?_ | refine (exec_load rfl rfl hSw.2).trans ?_ | refine (exec_load rfl rfl hSw.2.2).trans ?_); with_reducible rfl)
      refine wpSched_last ?_
      first | simp only [List.map_nil] | simp only [List.map_cons, List.map_nil]
      clear KS
      go_wp2_with fail
      refine NoPanic.normal ?_
      go_wp2_with fail
      exact ⟨⟨k + 1, by omega, by go_num, bDr hb, BA, BB⟩, by simp [intOf]; omega⟩
    · clear hA2 hB2
      have u0 := BA.cell 5
      have u1 := BB.cell 5
      go_wp2_with fail
      clear u0 u1
      go_loopw [6] (fun i wr => ∃ k : Nat, k ≤ x.off.length ∧ i = .int .i64 k ∧ Below W.heap.size W wr ∧ Blk wr W.heap.size 56 #[.slice s.a0 x.offs.length s.c0, .slice s.a1 x.legs.length s.c1, .int .i64 x.cls, .int .i64 x.room, .slice s.a2 x.rules.length s.c2, .slice s.a3 x.off.length s.c3] ∧ Blk wr (W.heap.size + 1) 56 #[.slice t.a0 x.offs.length t.c0, .slice t.a1 x.legs.length t.c1, .int .i64 x.cls, .int .i64 x.room, .slice t.a2 x.rules.length t.c2, .slice t.a3 x.off.length t.c3]) (fun i _ => x.off.length - (intOf i).toNat)
      case atStart => exact ⟨0, Nat.zero_le _, rfl, hb, BA, BB⟩
      case round =>
        clear hb BA BB t0 t1
        obtain ⟨k, hkn, rfl, hb, BA, BB⟩ := hrel
        have t0 := BA.cell 5
        have t1 := BB.cell 5
        by_cases hlt : k < x.off.length
        · obtain ⟨y, hy⟩ : ∃ y, Hid (x.off[k]? = some y) := ⟨_, Lib.hid (List.getElem?_eq_getElem hlt)⟩
          have hbz := hb.size
          obtain ⟨b1, o1, e1, l1, L1⟩ := el_load (f := Gp.cl) (fun _ _ => rfl) (hA3.below hb) hlt hy.out Tryz.underlying61 rfl (by kernel_rfl) hbz
          obtain ⟨b2, o2, e2, l2, L2⟩ := el_load (f := Gp.cl) (fun _ _ => rfl) (hB3.below hb) hlt hy.out Tryz.underlying61 rfl (by kernel_rfl) hbz
          have hq := ne_gp y
          generalize y.cl.toArray = X at *
          have i0 : (0 : Int) ≤ (k : Int) := by omega
          have i1 : (k : Int) < (x.off.length : Int) := by omega
          have e1 := Lib.hid e1
          have KS : Hid (∀ w', Below wr.heap.size wr w' → (Instr.loadAt 61 (.pointer (some ⟨b1, o1 + k * 2, none⟩))).run Tryz.prog w' = .ok (.agg X) w' ∧ (Instr.loadAt 61 (.pointer (some ⟨b2, o2 + k * 2, none⟩))).run Tryz.prog w' = .ok (.agg X) w' ∧ w'.cell? ⟨W.heap.size, 5, none⟩ = some (.slice (some ⟨b1, o1, none⟩) x.off.length s.c3) ∧ w'.cell? ⟨W.heap.size + 1, 5, none⟩ = some (.slice (some ⟨b2, o2, none⟩) x.off.length t.c3)) := Lib.hid (fun w' h => ⟨L1 w' h, L2 w' h, ((BA.below h BA.lt).cell 5).trans (by rw [← e1.out]; rfl), ((BB.below h BB.lt).cell 5).trans (by rw [← e2]; rfl)⟩)
          clear L1 L2 e1 e2
          go_upto_region 11 with fail
          refine wp_region_schB (f := 10) KS [(0, 1), (1, 2), (2, 1), (3, 1), (4, 2), (5, 1), (6, 2), (7, 1), (8, 1), (9, 2), (10, 3)] ?_
          simp only [pickS, List.getElem?_cons_zero, List.getElem?_cons_succ]
          refine wpSched_t ?_
          refine wpSched_r ?_
          refine wpSched_t ?_
          refine wpSched_t ?_
          refine wpSched_r (v := ?vq3) (hv := ?hq3) ?_; case hq3 => (intro w hSw; (first | refine (exec_load rfl rfl hSw).trans ?_ | refine (exec_load rfl rfl hSw.1).trans ?_ | refine (exec_load rfl rfl hSw.2.1).trans ?_ | refine (exec_load rfl rfl hSw.2.2.1).trans ?_ | refine (exec_load rfl rfl hSw.2).trans ?_ | refine (exec_load rfl rfl hSw.2.2).trans ?_); with_reducible rfl)
          refine wpSched_t ?_
          refine wpSched_r ?_
          refine wpSched_t ?_
          refine wpSched_t ?_
          refine wpSched_r (v := ?vq4) (hv := ?hq4) ?_; case hq4 => (intro w hSw; (first | refine (exec_load rfl rfl hSw).trans ?_ | refine (exec_load rfl rfl hSw.1).trans ?_ | refine (exec_load rfl rfl hSw.2.1).trans ?_ | refine (exec_load rfl rfl hSw.2.2.1).trans ?_ | refine (exec_load rfl rfl hSw.2).trans ?_ | refine (exec_load rfl rfl hSw.2.2).trans ?_); with_reducible rfl)
          refine wpSched_last ?_
          first | simp only [List.map_nil] | simp only [List.map_cons, List.map_nil]
          clear KS
          go_wp2_with fail
          refine NoPanic.normal ?_
          go_wp2_with fail
          exact ⟨⟨k + 1, by omega, by go_num, bDr hb, BA, BB⟩, by simp [intOf]; omega⟩
        · clear hA3 hB3
          go_wp2_with fail
          go_ret
          exact ⟨rfl, hb⟩
theorem eqItems_same (d : Nat) (a : List Nat) (w : World) : ∀ is : List Nat, (∀ i ∈ is, i < a.length) →
    (Op.eqItems (d + 1) 5 1 (byts a).toArray (byts a).toArray is).run Tryz.prog w = .ok true w
  | [], _ => by simp [Op.eqItems]
  | i :: is, h => by
    have h1 := h i (by simp)
    have ih := eqItems_same d a w is (fun j hj => h j (by simp [hj]))
    have a5 := Tryz.isAgg5
    have x1 : (byts a).toArray[i * 1]? = some (.int .u8 (a.getD i 0 : Nat)) := by simp [byts, h1]
    have p1 : (part 5 (byts a).toArray (i * 1)).run Tryz.prog w = .ok (.int .u8 (a.getD i 0 : Nat)) w := by simp only [part, Sem.run_bind, a5, Result.andThen_ok]; rw [x1]; simp
    simp only [Op.eqItems, Sem.run_bind, p1, Result.andThen_ok, run_equalIn_int w d 5 .u8 .u8 _ _ Tryz.underlying5]
    simpa using ih
theorem ne_dig (a : List Nat) (ha : a.length = 32) (w : World) : (binOp .neq 32 (.agg (byts a).toArray) (.agg (byts a).toArray)).run Tryz.prog w = .ok (.bool false) w := by
  obtain ⟨i0, hi⟩ : ∃ i, Tryz.prog.info? 5 = some i := info_of_underlying Tryz.underlying5
  have hc : Tryz.prog.cellsOf 5 = 1 := by kernel_rfl
  have h2 : (Op.equalIn 10000 32 (.agg (byts a).toArray) (.agg (byts a).toArray)).run Tryz.prog w = .ok true w := by
    rw [show (10000 : Nat) = 9998 + 1 + 1 from rfl, run_equalIn_array w (9998 + 1) _ _ Tryz.underlying32 hi, hc, eqItems_same 9998 a w _ (by intro i hi; have := List.mem_range.1 hi; omega)]
  rw [run_neq_struct, h2]; rfl
theorem ws_at {s : WS} {x : Wld} {k : Nat} {v : Value} (hv : ([.int .i64 x.offs, .slice s.al x.lines.length s.cl_, .slice s.ab x.base.length s.cb, .slice s.ag x.leg.length s.cg, .slice s.at_ x.tiers.length s.ct, .slice s.ao x.orders.length s.co, .int .i64 x.people, .slice s.ae x.ents.length s.ce, .int .i64 x.covers, .slice s.as_ x.secs.length s.cs] : List Value)[k]? = some v) : (s.cl x).toArray[k]? = some v := by
  rw [List.getElem?_toArray]
  unfold WS.cl
  rw [List.getElem?_append_left (List.getElem?_eq_some_iff.1 hv).1]
  exact hv
theorem ws_last {s : WS} {x : Wld} (h : x.seed.length = 32) : (s.cl x).toArray[42]? = some (.slice s.af x.faults.length s.cf) := by
  have e : (byts x.seed).length = 32 := by rw [byts_length, h]
  rw [List.getElem?_toArray]
  unfold WS.cl
  rw [List.getElem?_append_right (by simp), List.getElem?_append_right (by simp [e])]
  simp [e]
theorem ws_seed {s : WS} {x : Wld} {w : World} {b : Nat} {t : TypeId} (h : x.seed.length = 32) (hB : Blk w b t (s.cl x).toArray) : (Instr.loadAt 32 (.pointer (some ⟨b, 10, none⟩))).run Tryz.prog w = .ok (.agg (byts x.seed).toArray) w := by
  have e : (byts x.seed).length = 32 := by rw [byts_length, h]
  refine run_loadAt_mid w b 10 32 (byts x.seed) _ (fun j v hj => ?_) Tryz.underlying32 rfl (by rw [e]; kernel_rfl)
  rw [hB.cell, List.getElem?_toArray]
  unfold WS.cl
  rw [List.getElem?_append_right (by simp), List.getElem?_append_left (by simp; have := (List.getElem?_eq_some_iff.1 hj).1; omega)]
  simpa using hj
theorem ref_same (x : Wld) (s t : WS) (W : World) (hA : WldAt W W.heap.size s x) (hB : WldAt W W.heap.size t x) (hs : x.small) :
    Calls Tryz.prog 14 #[.agg (s.cl x).toArray, .agg (t.cl x).toArray] W (Ret (.bool true) W) := by
  have BA := (Blk.new W 35 (s.cl x).toArray _ rfl).alloc (.cells (t.cl x).toArray 35)
  have BB := Blk.new (W.alloc (.cells (s.cl x).toArray 35)) 35 (t.cl x).toArray _ rfl
  have hb := bAl (bAl (bRefl W) (.cells (s.cl x).toArray 35)) (.cells (t.cl x).toArray 35)
  rw [show (W.alloc (.cells (s.cl x).toArray 35)).heap.size = W.heap.size + 1 by simp] at BB
  have hq := ne_dig x.seed hs.seed
  have SA : Hid (∀ w', Below (W.heap.size + 2) ((W.alloc (.cells (s.cl x).toArray 35)).alloc (.cells (t.cl x).toArray 35)) w' → (Instr.loadAt 32 (.pointer (some ⟨W.heap.size, 10, none⟩))).run Tryz.prog w' = .ok (.agg (byts x.seed).toArray) w') := Lib.hid (fun w' h => ws_seed hs.seed (BA.below h (by omega)))
  have SB : Hid (∀ w', Below (W.heap.size + 2) ((W.alloc (.cells (s.cl x).toArray 35)).alloc (.cells (t.cl x).toArray 35)) w' → (Instr.loadAt 32 (.pointer (some ⟨W.heap.size + 1, 10, none⟩))).run Tryz.prog w' = .ok (.agg (byts x.seed).toArray) w') := Lib.hid (fun w' h => ws_seed hs.seed (BB.below h (by omega)))
  have A0 : (s.cl x).toArray[0]? = some _ := ws_at (k := 0) rfl
  have A1 : (s.cl x).toArray[1]? = some _ := ws_at (k := 1) rfl
  have A2 : (s.cl x).toArray[2]? = some _ := ws_at (k := 2) rfl
  have A3 : (s.cl x).toArray[3]? = some _ := ws_at (k := 3) rfl
  have A4 : (s.cl x).toArray[4]? = some _ := ws_at (k := 4) rfl
  have A5 : (s.cl x).toArray[5]? = some _ := ws_at (k := 5) rfl
  have A6 : (s.cl x).toArray[6]? = some _ := ws_at (k := 6) rfl
  have A7 : (s.cl x).toArray[7]? = some _ := ws_at (k := 7) rfl
  have A8 : (s.cl x).toArray[8]? = some _ := ws_at (k := 8) rfl
  have A9 : (s.cl x).toArray[9]? = some _ := ws_at (k := 9) rfl
  have A10 : (s.cl x).toArray[42]? = some _ := ws_last hs.seed
  have B0 : (t.cl x).toArray[0]? = some _ := ws_at (k := 0) rfl
  have B1 : (t.cl x).toArray[1]? = some _ := ws_at (k := 1) rfl
  have B2 : (t.cl x).toArray[2]? = some _ := ws_at (k := 2) rfl
  have B3 : (t.cl x).toArray[3]? = some _ := ws_at (k := 3) rfl
  have B4 : (t.cl x).toArray[4]? = some _ := ws_at (k := 4) rfl
  have B5 : (t.cl x).toArray[5]? = some _ := ws_at (k := 5) rfl
  have B6 : (t.cl x).toArray[6]? = some _ := ws_at (k := 6) rfl
  have B7 : (t.cl x).toArray[7]? = some _ := ws_at (k := 7) rfl
  have B8 : (t.cl x).toArray[8]? = some _ := ws_at (k := 8) rfl
  have B9 : (t.cl x).toArray[9]? = some _ := ws_at (k := 9) rfl
  have B10 : (t.cl x).toArray[42]? = some _ := ws_last hs.seed
  generalize (s.cl x).toArray = X at *
  generalize (t.cl x).toArray = Y at *
  obtain ⟨la, la1, la2, la3⟩ := hA.rl
  obtain ⟨lb, lb1, lb2, lb3⟩ := hB.rl
  obtain ⟨va, va1, va2, va3⟩ := hA.ro
  obtain ⟨vb, vb1, vb2, vb3⟩ := hB.ro
  have rtA := hA.rt
  have rtB := hB.rt
  have rfA := hA.rf
  have rfB := hB.rf
  have Q0 : Hid (∀ w', Below W.heap.size W w' → Calls Tryz.prog 34 #[.slice s.ab x.base.length s.cb, .slice t.ab x.base.length t.cb] w' (Ret (.bool true) w')) := Lib.hid (fun w' h => same_ints _ _ _ _ x.base w' ((hA.rb.below h).more h.size) ((hB.rb.below h).more h.size) hs.base)
  have Q1 : Hid (∀ w', Below W.heap.size W w' → Calls Tryz.prog 34 #[.slice s.ag x.leg.length s.cg, .slice t.ag x.leg.length t.cg] w' (Ret (.bool true) w')) := Lib.hid (fun w' h => same_ints _ _ _ _ x.leg w' ((hA.rg.below h).more h.size) ((hB.rg.below h).more h.size) hs.leg)
  have Q4 : Hid (∀ w', Below W.heap.size W w' → Calls Tryz.prog 34 #[.slice s.as_ x.secs.length s.cs, .slice t.as_ x.secs.length t.cs] w' (Ret (.bool true) w')) := Lib.hid (fun w' h => same_ints _ _ _ _ x.secs w' ((hA.rs.below h).more h.size) ((hB.rs.below h).more h.size) hs.secs)
  have Q3 : Hid (∀ w', Below W.heap.size W w' → Calls Tryz.prog 36 #[.slice s.ae x.ents.length s.ce, .slice t.ae x.ents.length t.ce] w' (Ret (.bool true) w')) := Lib.hid (fun w' h => same_ents _ _ _ _ x.ents w' ((hA.re.below h).more h.size) ((hB.re.below h).more h.size) hs.ents)
  have Q2 : Hid (∀ w', Below W.heap.size W w' → Calls Tryz.prog 35 #[.slice s.ao x.orders.length s.co, .slice t.ao x.orders.length t.co] w' (Ret (.bool true) w')) := Lib.hid (fun w' h => same_orders _ _ _ _ x.orders va vb w' ((va2.below h).more h.size) ((vb2.below h).more h.size) va1 vb1
    (fun k y hy => by obtain ⟨A, c, e, r⟩ := va3 k y hy; exact ⟨A, c, e, (r.below h).more h.size⟩) (fun k y hy => by obtain ⟨A, c, e, r⟩ := vb3 k y hy; exact ⟨A, c, e, (r.below h).more h.size⟩) hs.orders (fun o ho => (hs.order o ho).1))
  have hn0 := hs.lines
  have hn1 := hs.tiers
  have hn2 := hs.faults
  clear hA hB
  go_enter Tryz.func14, Tryz.ntmps14
  go_upto_region 1 with fail
  have hz1 : ((W.alloc (.cells X 35)).alloc (.cells Y 35)).heap.size = W.heap.size + 2 := by simp
  generalize (W.alloc (.cells X 35)).alloc (.cells Y 35) = w1 at *
  have a3 := (BA.cell 6).trans A6
  have b3 := (BB.cell 6).trans B6
  have a5 := (BA.cell 8).trans A8
  have b5 := (BB.cell 8).trans B8
  have a0 := (BA.cell 0).trans A0
  have b0 := (BB.cell 0).trans B0
  have a1 := (BA.cell 1).trans A1
  have b1 := (BB.cell 1).trans B1
  have a4 := (BA.cell 4).trans A4
  have b4 := (BB.cell 4).trans B4
  have a42 := (BA.cell 42).trans A10
  have b42 := (BB.cell 42).trans B10
  apply wp_region_lit
  iterate 36 go_step
  refine wpList_loadG (by rfl) (by rfl) (by rfl) (SA.out _ (by rw [← hz1]; exact bRefl _)) ?_
  simp only [Act.put]
  iterate 2 go_step
  refine wpList_loadG (by rfl) (by rfl) (by rfl) (SB.out _ (by rw [← hz1]; exact bRefl _)) ?_
  simp only [Act.put]
  go_wp2_with fail
  go_loopw [5] (fun i wr => ∃ k : Nat, k ≤ x.lines.length ∧ i = .int .i64 k ∧ Below W.heap.size W wr ∧ Blk wr W.heap.size 35 X ∧ Blk wr (W.heap.size + 1) 35 Y) (fun i _ => x.lines.length - (intOf i).toNat)
  case atStart => exact ⟨0, Nat.zero_le _, rfl, hb, BA, BB⟩
  case round =>
    clear hb BA BB a3 b3 a5 b5 a0 b0 a1 b1 a4 b4 a42 b42
    obtain ⟨k, hkn, rfl, hb, BA, BB⟩ := hrel
    have t0 := (BA.cell 1).trans A1
    have t1 := (BB.cell 1).trans B1
    by_cases hlt : k < x.lines.length
    · obtain ⟨y, hy⟩ : ∃ y, Hid (x.lines[k]? = some y) := ⟨_, Lib.hid (List.getElem?_eq_getElem hlt)⟩
      have hbz := hb.size
      obtain ⟨p, ep, rp⟩ := la3 k y hy.out
      obtain ⟨q, eq, rq⟩ := lb3 k y hy.out
      have za : (la.zip x.lines)[k]? = some (p, y) := by rw [List.getElem?_zip_eq_some]; exact ⟨ep, hy.out⟩
      have zb : (lb.zip x.lines)[k]? = some (q, y) := by rw [List.getElem?_zip_eq_some]; exact ⟨eq, hy.out⟩
      obtain ⟨c1, o1, e1, l1, L1⟩ := el_load (f := fun p : LS × Lin => p.1.cl p.2) (fun _ _ => rfl) (la2.below hb) hlt za Tryz.underlying56 rfl (by kernel_rfl) hbz
      obtain ⟨c2, o2, e2, l2, L2⟩ := el_load (f := fun p : LS × Lin => p.1.cl p.2) (fun _ _ => rfl) (lb2.below hb) hlt zb Tryz.underlying56 rfl (by kernel_rfl) hbz
      have q0 : Hid (∀ w', Below wr.heap.size wr w' → Calls Tryz.prog 33 #[.agg (p.cl y).toArray, .agg (q.cl y).toArray] w' (Ret (.bool true) w')) := Lib.hid (fun w' h => same_line y p q w' (((rp.below hb).below (h.mono hbz)).more (Nat.le_trans hbz h.size)) (((rq.below hb).below (h.mono hbz)).more (Nat.le_trans hbz h.size)) (hs.line y (List.mem_of_getElem? hy.out)))
      dsimp only at L1 L2
      generalize (p.cl y).toArray = Z1 at *
      generalize (q.cl y).toArray = Z2 at *
      clear ep eq rp rq za zb
      have i0 : (0 : Int) ≤ (k : Int) := by omega
      have i1 : (k : Int) < (x.lines.length : Int) := by omega
      replace e1 := Lib.hid e1
      have KS : Hid (∀ w', Below wr.heap.size wr w' → (Instr.loadAt 56 (.pointer (some ⟨c1, o1 + k * 6, none⟩))).run Tryz.prog w' = .ok (.agg Z1) w' ∧ (Instr.loadAt 56 (.pointer (some ⟨c2, o2 + k * 6, none⟩))).run Tryz.prog w' = .ok (.agg Z2) w' ∧ w'.cell? ⟨W.heap.size, 1, none⟩ = some (.slice (some ⟨c1, o1, none⟩) x.lines.length s.cl_) ∧ w'.cell? ⟨W.heap.size + 1, 1, none⟩ = some (.slice (some ⟨c2, o2, none⟩) x.lines.length t.cl_)) := Lib.hid (fun w' h => ⟨L1 w' h, L2 w' h, ((BA.below h BA.lt).cell 1).trans (by rw [← e1.out]; exact A1), ((BB.below h BB.lt).cell 1).trans (by rw [← e2]; exact B1)⟩)
      clear L1 L2 e1 e2
      go_upto_region 6 with fail
      refine wp_region_schB (f := 13) KS [(0, 1), (1, 1), (2, 2), (3, 1), (4, 1), (5, 2), (6, 1), (7, 1), (8, 2), (9, 1), (10, 1), (11, 2), (12, 0), (13, 3)] ?_
      simp only [pickS, List.getElem?_cons_zero, List.getElem?_cons_succ]
      refine wpSched_t ?_
      refine wpSched_t ?_
      refine wpSched_r ?_
      refine wpSched_t ?_
      refine wpSched_t ?_
      refine wpSched_r (v := ?vq5) (hv := ?hq5) ?_; case hq5 => (intro w hSw; (first | refine (exec_load rfl rfl hSw).trans ?_ | refine (exec_load rfl rfl hSw.1).trans ?_ | refine (exec_load rfl rfl hSw.2.1).trans ?_ | refine (exec_load rfl rfl hSw.2.2.1).trans ?_ | refine (exec_load rfl rfl hSw.2).trans ?_ | refine (exec_load rfl rfl hSw.2.2).trans ?_); with_reducible rfl)
      refine wpSched_t ?_
      refine wpSched_t ?_
      refine wpSched_r ?_
      refine wpSched_t ?_
      refine wpSched_t ?_
      refine wpSched_r (v := ?vq6) (hv := ?hq6) ?_; case hq6 => (intro w hSw; (first | refine (exec_load rfl rfl hSw).trans ?_ | refine (exec_load rfl rfl hSw.1).trans ?_ | refine (exec_load rfl rfl hSw.2.1).trans ?_ | refine (exec_load rfl rfl hSw.2.2.1).trans ?_ | refine (exec_load rfl rfl hSw.2).trans ?_ | refine (exec_load rfl rfl hSw.2.2).trans ?_); with_reducible rfl)
      refine wpSched_force (fun K hK => ?_)
      go_simp; (first | (go_at_call 33; (with_reducible refine (q0.out _ (bDr (bRefl _))).mono ?_); rintro e w6 ⟨rfl, b6⟩; have B6x : Below wr.heap.size wr w6 := bCall (bDr (bRefl _)) b6) | skip)
      refine shut_go hK KS ?_
      clear hK K
      refine wpSched_last ?_
      first | simp only [List.map_nil] | simp only [List.map_cons, List.map_nil]
      clear KS
      go_wp2_with fail
      refine NoPanic.normal ?_
      go_wp2_with fail
      exact ⟨⟨k + 1, by omega, by go_num, hb.trans (B6x.mono hbz), BA.below B6x BA.lt, BB.below B6x BB.lt⟩, by simp [intOf]; omega⟩
    · have u0 := (BA.cell 4).trans A4
      have u1 := (BB.cell 4).trans B4
      go_wp2_with fail
      go_loopw [6] (fun i wr => ∃ k : Nat, k ≤ x.tiers.length ∧ i = .int .i64 k ∧ Below W.heap.size W wr ∧ Blk wr W.heap.size 35 X ∧ Blk wr (W.heap.size + 1) 35 Y) (fun i _ => x.tiers.length - (intOf i).toNat)
      case atStart => exact ⟨0, Nat.zero_le _, rfl, hb, BA, BB⟩
      case round =>
        clear hb BA BB t0 t1 u0 u1
        obtain ⟨k, hkn, rfl, hb, BA, BB⟩ := hrel
        have t0 := (BA.cell 4).trans A4
        have t1 := (BB.cell 4).trans B4
        by_cases hlt : k < x.tiers.length
        · obtain ⟨y, hy⟩ : ∃ y, Hid (x.tiers[k]? = some y) := ⟨_, Lib.hid (List.getElem?_eq_getElem hlt)⟩
          have hbz := hb.size
          obtain ⟨c1, o1, e1, l1, L1⟩ := el_load (f := Tie.cl) (fun _ _ => rfl) (rtA.below hb) hlt hy.out Tryz.underlying63 rfl (by kernel_rfl) hbz
          obtain ⟨c2, o2, e2, l2, L2⟩ := el_load (f := Tie.cl) (fun _ _ => rfl) (rtB.below hb) hlt hy.out Tryz.underlying63 rfl (by kernel_rfl) hbz
          have hq2 := ne_tie y
          generalize hZ : y.cl.toArray = Z1 at *
          have i0 : (0 : Int) ≤ (k : Int) := by omega
          have i1 : (k : Int) < (x.tiers.length : Int) := by omega
          replace e1 := Lib.hid e1
          have KS : Hid (∀ w', Below wr.heap.size wr w' → (Instr.loadAt 63 (.pointer (some ⟨c1, o1 + k * 2, none⟩))).run Tryz.prog w' = .ok (.agg Z1) w' ∧ (Instr.loadAt 63 (.pointer (some ⟨c2, o2 + k * 2, none⟩))).run Tryz.prog w' = .ok (.agg Z1) w' ∧ w'.cell? ⟨W.heap.size, 4, none⟩ = some (.slice (some ⟨c1, o1, none⟩) x.tiers.length s.ct) ∧ w'.cell? ⟨W.heap.size + 1, 4, none⟩ = some (.slice (some ⟨c2, o2, none⟩) x.tiers.length t.ct)) := Lib.hid (fun w' h => ⟨L1 w' h, L2 w' h, ((BA.below h BA.lt).cell 4).trans (by rw [← e1.out]; exact A4), ((BB.below h BB.lt).cell 4).trans (by rw [← e2]; exact B4)⟩)
          clear L1 L2 e1 e2
          go_upto_region 11 with fail
          refine wp_region_schB (f := 12) KS [(0, 1), (1, 1), (2, 2), (3, 1), (4, 1), (5, 2), (6, 1), (7, 1), (8, 2), (9, 1), (10, 1), (11, 2), (12, 3)] ?_
          simp only [pickS, List.getElem?_cons_zero, List.getElem?_cons_succ]
          refine wpSched_t ?_
          refine wpSched_t ?_
          refine wpSched_r ?_
          refine wpSched_t ?_
          refine wpSched_t ?_
          refine wpSched_r (v := ?vq7) (hv := ?hq7) ?_; case hq7 => (intro w hSw; (first | refine (exec_load rfl rfl hSw).trans ?_ | refine (exec_load rfl rfl hSw.1).trans ?_ | refine (exec_load rfl rfl hSw.2.1).trans ?_ | refine (exec_load rfl rfl hSw.2.2.1).trans ?_ | refine (exec_load rfl rfl hSw.2).trans ?_ | refine (exec_load rfl rfl hSw.2.2).trans ?_); with_reducible rfl)
          refine wpSched_t ?_
          refine wpSched_t ?_
          refine wpSched_r ?_
          refine wpSched_t ?_
          refine wpSched_t ?_
          refine wpSched_r (v := ?vq8) (hv := ?hq8) ?_; case hq8 => (intro w hSw; (first | refine (exec_load rfl rfl hSw).trans ?_ | refine (exec_load rfl rfl hSw.1).trans ?_ | refine (exec_load rfl rfl hSw.2.1).trans ?_ | refine (exec_load rfl rfl hSw.2.2.1).trans ?_ | refine (exec_load rfl rfl hSw.2).trans ?_ | refine (exec_load rfl rfl hSw.2.2).trans ?_); with_reducible rfl)
          refine wpSched_last ?_
          first | simp only [List.map_nil] | simp only [List.map_cons, List.map_nil]
          clear KS
          go_wp2_with fail
          refine NoPanic.normal ?_
          go_wp2_with fail
          exact ⟨⟨k + 1, by omega, by go_num, bDr hb, BA, BB⟩, by simp [intOf]; omega⟩
        · have u0 := (BA.cell 42).trans A10
          have u1 := (BB.cell 42).trans B10
          go_wp2_with fail
          go_loopw [7] (fun i wr => ∃ k : Nat, k ≤ x.faults.length ∧ i = .int .i64 k ∧ Below W.heap.size W wr ∧ Blk wr W.heap.size 35 X ∧ Blk wr (W.heap.size + 1) 35 Y) (fun i _ => x.faults.length - (intOf i).toNat)
          case atStart => exact ⟨0, Nat.zero_le _, rfl, hb, BA, BB⟩
          case round =>
            clear hb BA BB t0 t1 u0 u1
            obtain ⟨k, hkn, rfl, hb, BA, BB⟩ := hrel
            have t0 := (BA.cell 42).trans A10
            have t1 := (BB.cell 42).trans B10
            by_cases hlt : k < x.faults.length
            · obtain ⟨y, hy⟩ : ∃ y, Hid (x.faults[k]? = some y) := ⟨_, Lib.hid (List.getElem?_eq_getElem hlt)⟩
              have hbz := hb.size
              obtain ⟨c1, o1, e1, l1, L1⟩ := el_load (f := Slp.cl) (fun _ _ => rfl) (rfA.below hb) hlt hy.out Tryz.underlying71 rfl (by kernel_rfl) hbz
              obtain ⟨c2, o2, e2, l2, L2⟩ := el_load (f := Slp.cl) (fun _ _ => rfl) (rfB.below hb) hlt hy.out Tryz.underlying71 rfl (by kernel_rfl) hbz
              have hq2 := ne_slp y
              generalize hZ : y.cl.toArray = Z1 at *
              have i0 : (0 : Int) ≤ (k : Int) := by omega
              have i1 : (k : Int) < (x.faults.length : Int) := by omega
              replace e1 := Lib.hid e1
              have KS : Hid (∀ w', Below wr.heap.size wr w' → (Instr.loadAt 71 (.pointer (some ⟨c1, o1 + k * 4, none⟩))).run Tryz.prog w' = .ok (.agg Z1) w' ∧ (Instr.loadAt 71 (.pointer (some ⟨c2, o2 + k * 4, none⟩))).run Tryz.prog w' = .ok (.agg Z1) w' ∧ w'.cell? ⟨W.heap.size, 42, none⟩ = some (.slice (some ⟨c1, o1, none⟩) x.faults.length s.cf) ∧ w'.cell? ⟨W.heap.size + 1, 42, none⟩ = some (.slice (some ⟨c2, o2, none⟩) x.faults.length t.cf)) := Lib.hid (fun w' h => ⟨L1 w' h, L2 w' h, ((BA.below h BA.lt).cell 42).trans (by rw [← e1.out]; exact A10), ((BB.below h BB.lt).cell 42).trans (by rw [← e2]; exact B10)⟩)
              clear L1 L2 e1 e2
              go_upto_region 16 with fail
              refine wp_region_schB (f := 10) KS [(0, 1), (1, 2), (2, 1), (3, 1), (4, 2), (5, 1), (6, 2), (7, 1), (8, 1), (9, 2), (10, 3)] ?_
              simp only [pickS, List.getElem?_cons_zero, List.getElem?_cons_succ]
              refine wpSched_t ?_
              refine wpSched_r ?_
              refine wpSched_t ?_
              refine wpSched_t ?_
              refine wpSched_r (v := ?vq9) (hv := ?hq9) ?_; case hq9 => (intro w hSw; (first | refine (exec_load rfl rfl hSw).trans ?_ | refine (exec_load rfl rfl hSw.1).trans ?_ | refine (exec_load rfl rfl hSw.2.1).trans ?_ | refine (exec_load rfl rfl hSw.2.2.1).trans ?_ | refine (exec_load rfl rfl hSw.2).trans ?_ | refine (exec_load rfl rfl hSw.2.2).trans ?_); with_reducible rfl)
              refine wpSched_t ?_
              refine wpSched_r ?_
              refine wpSched_t ?_
              refine wpSched_t ?_
              refine wpSched_r (v := ?vq10) (hv := ?hq10) ?_; case hq10 => (intro w hSw; (first | refine (exec_load rfl rfl hSw).trans ?_ | refine (exec_load rfl rfl hSw.1).trans ?_ | refine (exec_load rfl rfl hSw.2.1).trans ?_ | refine (exec_load rfl rfl hSw.2.2.1).trans ?_ | refine (exec_load rfl rfl hSw.2).trans ?_ | refine (exec_load rfl rfl hSw.2.2).trans ?_); with_reducible rfl)
              refine wpSched_last ?_
              first | simp only [List.map_nil] | simp only [List.map_cons, List.map_nil]
              clear KS
              go_wp2_with fail
              refine NoPanic.normal ?_
              go_wp2_with fail
              exact ⟨⟨k + 1, by omega, by go_num, bDr hb, BA, BB⟩, by simp [intOf]; omega⟩
            · have e0 := (BA.cell 2).trans A2
              have e1 := (BB.cell 2).trans B2
              go_wp2_with (first | (go_at_call 34; (with_reducible refine (Q0.out _ hb).mono ?_); rintro e v1 ⟨rfl, d1⟩; have hc1 := bCall hb d1; have BA1 := BA.below d1 BA.lt; have BB1 := BB.below d1 BB.lt; have f1 := (BA1.cell 3).trans A3; have g1 := (BB1.cell 3).trans B3) | (go_at_call 34; (with_reducible refine (Q1.out _ hc1).mono ?_); rintro e v2 ⟨rfl, d2⟩; have hc2 := bCall hc1 d2; have BA2 := BA1.below d2 BA1.lt; have BB2 := BB1.below d2 BB1.lt; have f2 := (BA2.cell 5).trans A5; have g2 := (BB2.cell 5).trans B5) | (go_at_call 35; (with_reducible refine (Q2.out _ hc2).mono ?_); rintro e v3 ⟨rfl, d3⟩; have hc3 := bCall hc2 d3; have BA3 := BA2.below d3 BA2.lt; have BB3 := BB2.below d3 BB2.lt; have f3 := (BA3.cell 7).trans A7; have g3 := (BB3.cell 7).trans B7) | (go_at_call 36; (with_reducible refine (Q3.out _ hc3).mono ?_); rintro e v4 ⟨rfl, d4⟩; have hc4 := bCall hc3 d4; have BA4 := BA3.below d4 BA3.lt; have BB4 := BB3.below d4 BB3.lt; have f4 := (BA4.cell 9).trans A9; have g4 := (BB4.cell 9).trans B9) | (go_at_call 34; (with_reducible refine (Q4.out _ hc4).mono ?_); rintro e v5 ⟨rfl, d5⟩; have hc5 := bCall hc4 d5))
              go_ret
              exact ⟨rfl, hc5⟩
theorem LinsC.more {w : World} {B B' : Nat} {A : Option Addr} {l : List Lin} (h : LinsC w B A l) (b : B ≤ B') : LinsC w B' A l := by
  obtain ⟨ls, l1, l2, l3⟩ := h
  exact ⟨ls, l1, l2.more b, fun k y hy => by obtain ⟨q, e, r, c⟩ := l3 k y hy; exact ⟨q, e, r.more b, c⟩⟩
theorem ref_check (s : WS) (x : Wld) (W : World) (hx : WldAt W W.heap.size s x) (hC : LinsC W W.heap.size s.al x.lines) (hs : x.small) :
    Calls Tryz.prog 21 #[.agg (s.cl x).toArray] W (Ret (.int .i64 (postE x)) W) := by
  obtain ⟨v, hv⟩ : ∃ v, Hid (postE x = v) := ⟨_, Lib.hid rfl⟩
  rw [hv.out]
  have BX := Blk.new W 35 (s.cl x).toArray _ rfl
  have hb := bAl (bRefl W) (.cells (s.cl x).toArray 35)
  have hx1 := (hx.below hb).more hb.size
  have hC1 := (hC.below hb).more hb.size
  go_enter Tryz.func21, Tryz.ntmps21
  go_upto_region 1 with fail
  generalize W.alloc (.cells (s.cl x).toArray 35) = w1 at *
  have hbx := Lib.hid (fun w' (b : Below w1.heap.size w1 w') => bCall hb b)
  have KC : Hid (∀ w', Below w1.heap.size w1 w' → (w'.cell? ⟨W.heap.size, 0, none⟩ = some (.int .i64 x.offs) ∧ w'.cell? ⟨W.heap.size, 1, none⟩ = some (.slice s.al x.lines.length s.cl_) ∧ w'.cell? ⟨W.heap.size, 2, none⟩ = some (.slice s.ab x.base.length s.cb) ∧ w'.cell? ⟨W.heap.size, 3, none⟩ = some (.slice s.ag x.leg.length s.cg) ∧ w'.cell? ⟨W.heap.size, 4, none⟩ = some (.slice s.at_ x.tiers.length s.ct) ∧ w'.cell? ⟨W.heap.size, 5, none⟩ = some (.slice s.ao x.orders.length s.co) ∧ w'.cell? ⟨W.heap.size, 6, none⟩ = some (.int .i64 x.people) ∧ w'.cell? ⟨W.heap.size, 7, none⟩ = some (.slice s.ae x.ents.length s.ce) ∧ w'.cell? ⟨W.heap.size, 9, none⟩ = some (.slice s.as_ x.secs.length s.cs) ∧ w'.cell? ⟨W.heap.size, 42, none⟩ = some (.slice s.af x.faults.length s.cf))) := Lib.hid (fun w' b =>
    ⟨(BX.below b BX.lt).cell 0, (BX.below b BX.lt).cell 1, (BX.below b BX.lt).cell 2, (BX.below b BX.lt).cell 3, (BX.below b BX.lt).cell 4, (BX.below b BX.lt).cell 5, (BX.below b BX.lt).cell 6, (BX.below b BX.lt).cell 7, (BX.below b BX.lt).cell 9, by rw [(BX.below b BX.lt).cell 42, ws_last hs.seed]⟩)
  have q1 := Lib.hid (ra_table x.offs s.al s.cl_ x.lines w1 hC1 hs.lines hs.line)
  have q2 : Hid (∀ w', Below w1.heap.size w1 w' → Calls Tryz.prog 45 #[.agg #[.slice s.ab x.base.length s.cb, .slice s.ag x.leg.length s.cg, .slice s.at_ x.tiers.length s.ct]] w' (Ret (.int .i64 (tariffE x.base x.leg x.tiers)) w')) := Lib.hid (fun w' b =>
    ra_tariff s.ab s.ag s.at_ s.cb s.cg s.ct x.base x.leg x.tiers w' ((hx1.rb.below b).more b.size) ((hx1.rg.below b).more b.size) ((hx1.rt.below b).more b.size) hs.base hs.tiers)
  have q4 : Hid (∀ w', Below w1.heap.size w1 w' → Calls Tryz.prog 47 #[.slice s.ae x.ents.length s.ce] w' (Ret (.int .i64 (entsE x.ents)) w')) := Lib.hid (fun w' b =>
    ra_ents s.ae s.ce x.ents w' ((hx1.re.below b).more b.size) hs.ents)
  have hO := Lib.hid hx1.ro
  have hS := Lib.hid hx1.rs
  have hF := Lib.hid hx1.rf
  have hfo := Lib.hid hs.order
  have hsn : x.secs.length ≤ 1000000 := hs.secs
  have hfn : x.faults.length ≤ 1000000 := hs.faults
  have hnb : (x.base.length : Int) ≤ 1000000 := by have := hs.base; omega
  clear hx hC hx1 hC1 BX hb
  have hpe : Hid (postE x = if tableE x.offs x.lines = 0 then (if tariffE x.base x.leg x.tiers = 0 then (if btw x.people 0 1024 = true then (if x.orders.length ≤ 64 ∧ x.orders.all (fun o => o.right x.offs x.people (x.base.length : Int)) = true then (if entsE x.ents = 0 then (if (x.secs.length : Int) = x.offs ∧ x.secs.all secretB = true then (if slpsB none x.faults = true then 0 else 530) else 530) else entsE x.ents) else 220) else 530) else tariffE x.base x.leg x.tiers) else tableE x.offs x.lines) := Lib.hid (by unfold postE; rfl)
  generalize tableE x.offs x.lines = E1 at *
  generalize tariffE x.base x.leg x.tiers = E2 at *
  generalize entsE x.ents = E4 at *
  have hv2 := Lib.hid (hpe.out.symm.trans hv.out)
  clear hpe hv
  obtain ⟨d0, d1, d2, d3, d4, d5, d6, d7, d9, d42⟩ := KC.out _ (bRefl w1)
  go_wp2_with fail
  (with_reducible refine q1.out.mono ?_)
  rintro e w2 ⟨rfl, b2⟩
  have B2 := bCall (bRefl w1) b2
  clear b2 q1 d0 d1 d2 d3 d4 d5 d6 d7 d9 d42
  by_cases h1 : E1 = 0
  case neg =>
    have hr : Hid (v = E1) := Lib.hid (by rw [← hv2.out, if_neg h1])
    have g1 : (E1 != 0) = true := by simp only [bne_iff_ne, ne_eq]; exact h1
    clear hv2
    go_wp2_with fail
    go_ret
    exact ⟨ret_int hr.out.symm, hbx.out _ B2⟩
  subst h1
  rw [if_pos rfl] at hv2
  obtain ⟨d0, d1, d2, d3, d4, d5, d6, d7, d9, d42⟩ := KC.out _ B2
  go_wp2_with fail
  (with_reducible refine (q2.out _ B2).mono ?_)
  rintro e w3 ⟨rfl, b3⟩
  have B3 := bCall B2 b3
  clear b3 q2 d0 d1 d2 d3 d4 d5 d6 d7 d9 d42
  by_cases h2 : E2 = 0
  case neg =>
    have hr : Hid (v = E2) := Lib.hid (by rw [← hv2.out, if_neg h2])
    have g1 : (E2 != 0) = true := by simp only [bne_iff_ne, ne_eq]; exact h2
    clear hv2
    go_wp2_with fail
    go_ret
    exact ⟨ret_int hr.out.symm, hbx.out _ B3⟩
  subst h2
  rw [if_pos rfl] at hv2
  obtain ⟨d0, d1, d2, d3, d4, d5, d6, d7, d9, d42⟩ := KC.out _ B3
  clear d0 d1 d2 d3 d4 d7 d9 d42
  by_cases a1 : x.people < 0
  case pos =>
    have hr : Hid (v = 530) := Lib.hid (by rw [← hv2.out, if_neg (by unfold btw; simp; omega)])
    clear hv2
    go_wp2_with fail
    go_ret
    exact ⟨ret_int hr.out.symm, hbx.out _ B3⟩
  by_cases a2 : 1024 < x.people
  case pos =>
    have hr : Hid (v = 530) := Lib.hid (by rw [← hv2.out, if_neg (by unfold btw; simp; omega)])
    clear hv2
    go_wp2_with fail
    go_ret
    exact ⟨ret_int hr.out.symm, hbx.out _ B3⟩
  rw [if_pos (by unfold btw; simp; omega)] at hv2
  by_cases a3 : 64 < x.orders.length
  case pos =>
    have hr : Hid (v = 220) := Lib.hid (by rw [← hv2.out, if_neg (by omega)])
    have a4 : (64 : Int) < (x.orders.length : Int) := by omega
    clear hv2 a3
    go_wp2_with fail
    go_ret
    exact ⟨ret_int hr.out.symm, hbx.out _ B3⟩
  have a4 : ¬ (64 : Int) < (x.orders.length : Int) := by omega
  have a5 : Hid (x.orders.length ≤ 64) := Lib.hid (by omega)
  clear a3
  go_wp2_with fail
  clear d5 d6 a1 a2 a4
  have hno : Hid (∀ (k : Nat) y, x.orders[k]? = some y → y.right x.offs x.people (x.base.length : Int) = false → v = 220) := Lib.hid (fun k y hy h => by
    rw [← hv2.out, if_neg]
    rintro ⟨-, h2⟩
    have := List.all_eq_true.1 h2 y (List.mem_of_getElem? hy)
    rw [h] at this
    cases this)
  go_loopw [4] (fun i wr => ∃ k : Nat, k ≤ x.orders.length ∧ i = .int .i64 k ∧ Below w1.heap.size w1 wr ∧ Hid (∀ y ∈ x.orders.take k, (fun o : Odr => o.right x.offs x.people (x.base.length : Int)) y = true)) (fun i _ => x.orders.length - (intOf i).toNat)
  case atStart => exact ⟨0, Nat.zero_le _, rfl, B3, Lib.hid (by simp)⟩
  case round =>
    clear B2 B3
    obtain ⟨k, hkn, rfl, hb, hp⟩ := hrel
    by_cases hlt : k < x.orders.length
    · obtain ⟨y, hy⟩ : ∃ y, Hid (x.orders[k]? = some y) := ⟨_, Lib.hid (List.getElem?_eq_getElem hlt)⟩
      have hfy := Lib.hid (hfo.out y (List.mem_of_getElem? hy.out))
      obtain ⟨vs, l1, l2, l3⟩ := hO.out
      obtain ⟨A, c, es, rs⟩ := l3 k y hy.out
      have za : (x.orders.zip vs)[k]? = some (y, Value.slice A y.ag.length c) := by rw [List.getElem?_zip_eq_some]; exact ⟨hy.out, es⟩
      have hbz := hb.size
      obtain ⟨b1, o1, e8, l1', L1⟩ := el_load (f := fun p : Odr × Value => p.1.cl p.2) (fun _ _ => rfl) (l2.below hb) hlt za Tryz.underlying65 rfl (by kernel_rfl) hbz
      dsimp only at L1
      have i0 : (0 : Int) ≤ (k : Int) := by omega
      have i1 : (k : Int) < (x.orders.length : Int) := by omega
      obtain ⟨d0, d1, d2, d3, d4, d5, d6, d7, d9, d42⟩ := KC.out _ hb
      clear d0 d1 d2 d3 d4 d6 d7 d9 d42
      rw [e8] at d5
      have q : Hid (∀ w', Below wr.heap.size wr w' → Calls Tryz.prog 46 #[.agg (y.cl (.slice A y.ag.length c)).toArray, .int .i64 x.offs, .int .i64 x.people, .int .i64 (x.base.length : Nat)] w' (Ret (.bool (y.right x.offs x.people (x.base.length : Int))) w')) := Lib.hid (fun w' h => ra_odr y A c x.offs x.people (x.base.length : Int) w' ((rs.below (bCall hb h)).more (Nat.le_trans hbz h.size)) hfy.out.1)
      have hp1 := Lib.hid (fun h => all_on (p := fun o : Odr => o.right x.offs x.people (x.base.length : Int)) hp.out hy.out h)
      have hp0 := Lib.hid (fun h => hno.out k y hy.out h)
      generalize (y.cl (.slice A y.ag.length c)).toArray = X at *
      generalize y.right x.offs x.people (x.base.length : Int) = ok at q hp1 hp0
      have KS : Hid (∀ w', Below wr.heap.size wr w' → (Instr.loadAt 65 (.pointer (some ⟨b1, o1 + k * 11, none⟩))).run Tryz.prog w' = .ok (.agg X) w' ∧ w'.cell? ⟨W.heap.size, 0, none⟩ = some (.int .i64 x.offs) ∧ w'.cell? ⟨W.heap.size, 2, none⟩ = some (.slice s.ab x.base.length s.cb) ∧ w'.cell? ⟨W.heap.size, 5, none⟩ = some (.slice (some ⟨b1, o1, none⟩) x.orders.length s.co) ∧ w'.cell? ⟨W.heap.size, 6, none⟩ = some (.int .i64 x.people)) := Lib.hid (fun w' h => ⟨L1 w' h, (KC.out _ (bCall hb h)).1, (KC.out _ (bCall hb h)).2.2.1, e8 ▸ (KC.out _ (bCall hb h)).2.2.2.2.2.1, (KC.out _ (bCall hb h)).2.2.2.2.2.2.1⟩)
      clear L1 l2 l3 es rs za
      go_upto_region 14 with fail
      refine wp_region_schN (g := 0) KS [(0, 1), (1, 2), (2, 1), (3, 1), (4, 2), (5, 1), (6, 1), (7, 2), (8, 1), (9, 2), (10, 1), (11, 1), (12, 2), (13, 1), (14, 0), (15, 1)] ?_
      simp only [pickS, List.getElem?_cons_zero, List.getElem?_cons_succ]
      refine wpSchedN_t ?_
      refine wpSchedN_r ?_
      refine wpSchedN_t ?_
      refine wpSchedN_t ?_
      refine wpSchedN_r (v := ?vq1) (hv := ?hq1) ?_; case hq1 => (intro w hSw; (first | refine (exec_load rfl rfl hSw).trans ?_ | refine (exec_load rfl rfl hSw.1).trans ?_ | refine (exec_load rfl rfl hSw.2.1).trans ?_ | refine (exec_load rfl rfl hSw.2.2.1).trans ?_ | refine (exec_load rfl rfl hSw.2).trans ?_ | refine (exec_load rfl rfl hSw.2.2).trans ?_); with_reducible rfl)
      refine wpSchedN_t ?_
      refine wpSchedN_t ?_
      refine wpSchedN_r ?_
      refine wpSchedN_t ?_
      refine wpSchedN_r ?_
      refine wpSchedN_t ?_
      refine wpSchedN_t ?_
      refine wpSchedN_r ?_
      refine wpSchedN_t ?_
      refine wpSchedN_force (fun K hK => ?_)
      go_simp; (first | (go_at_call 46; (with_reducible refine (q.out _ (bDr (bRefl _))).mono ?_); rintro e w6 ⟨rfl, b6⟩; have B6 : Below wr.heap.size wr w6 := bCall (bDr (bRefl _)) b6) | skip)
      refine shut_go hK KS ?_
      clear hK K
      refine wpSchedN_t ?_
      refine anyN_end ?_
      refine NoPanic.normal ?_
      have hb6 := bCall hb B6
      clear KS d5 q b6
      cases ok
      · have hr := Lib.hid (hp0.out rfl)
        clear hp0 hp1
        go_wp2_with fail
        go_ret
        exact ⟨ret_int hr.out.symm, hbx.out _ hb6⟩
      · have hp2 := Lib.hid (hp1.out rfl)
        clear hp0 hp1
        go_wp2_with fail
        exact ⟨⟨k + 1, by omega, by go_num, hp2⟩, by simp [intOf]; omega⟩
    · have hall : Hid (x.orders.all (fun o => o.right x.offs x.people (x.base.length : Int)) = true) := Lib.hid (List.all_eq_true.2 (by have := hp.out; rwa [List.take_of_length_le (by omega)] at this))
      obtain ⟨d0, d1, d2, d3, d4, d5, d6, d7, d9, d42⟩ := KC.out _ hb
      clear d0 d1 d2 d3 d4 d6 d9 d42 hp hno
      rw [if_pos ⟨a5.out, hall.out⟩] at hv2
      clear hall
      go_wp2_with fail
      (with_reducible refine (q4.out _ hb).mono ?_)
      rintro e w5 ⟨rfl, b5⟩
      have B5 := bCall hb b5
      clear b5 q4 d5 d7
      by_cases h4 : E4 = 0
      case neg =>
        have hr : Hid (v = E4) := Lib.hid (by rw [← hv2.out, if_neg h4])
        have g1 : (E4 != 0) = true := by simp only [bne_iff_ne, ne_eq]; exact h4
        clear hv2
        go_wp2_with fail
        go_ret
        exact ⟨ret_int hr.out.symm, hbx.out _ B5⟩
      subst h4
      rw [if_pos rfl] at hv2
      obtain ⟨d0, d1, d2, d3, d4, d5, d6, d7, d9, d42⟩ := KC.out _ B5
      clear d1 d2 d3 d4 d5 d6 d7 d42
      by_cases h5 : (x.secs.length : Int) = x.offs
      case neg =>
        have hr : Hid (v = 530) := Lib.hid (by rw [← hv2.out, if_neg (fun h => h5 h.1)])
        have g1 : ((x.secs.length : Int) != x.offs) = true := by simp only [bne_iff_ne, ne_eq]; exact h5
        clear hv2
        go_wp2_with fail
        go_ret
        exact ⟨ret_int hr.out.symm, hbx.out _ B5⟩
      have g1 : ((x.secs.length : Int) != x.offs) = false := by simp only [bne_eq_false_iff_eq]; exact h5
      replace h5 := Lib.hid h5
      have hno : Hid (∀ (k : Nat) y, x.secs[k]? = some y → secretB y = false → v = 530) := Lib.hid (fun k y hy h => by
        rw [← hv2.out, if_neg]
        rintro ⟨-, h2⟩
        have := List.all_eq_true.1 h2 y (List.mem_of_getElem? hy)
        rw [h] at this
        cases this)
      go_wp2_with fail
      clear d0 d9 g1
      go_loopw [5] (fun i wr => ∃ k : Nat, k ≤ x.secs.length ∧ i = .int .i64 k ∧ Below w1.heap.size w1 wr ∧ Hid (∀ y ∈ x.secs.take k, secretB y = true)) (fun i _ => x.secs.length - (intOf i).toNat)
      case atStart => exact ⟨0, Nat.zero_le _, rfl, B5, Lib.hid (by simp)⟩
      case round =>
        clear B5
        clear hb
        obtain ⟨k, hkn, rfl, hb, hp⟩ := hrel
        obtain ⟨d0, d1, d2, d3, d4, d5, d6, d7, d9, d42⟩ := KC.out _ hb
        clear d0 d1 d2 d3 d4 d5 d6 d7
        by_cases hlt : k < x.secs.length
        · obtain ⟨y, hy⟩ : ∃ y, Hid (x.secs[k]? = some y) := ⟨_, Lib.hid (List.getElem?_eq_getElem hlt)⟩
          obtain ⟨b1, o1, e8, l1, hc⟩ := (hS.out.below hb).2 (by omega)
          have ck := hc k _ (ints_at hy.out)
          have i0 : (0 : Int) ≤ (k : Int) := by omega
          have i1 : (k : Int) < (x.secs.length : Int) := by omega
          rw [e8] at d9
          have q := ra_secret y wr
          have hp1 := Lib.hid (fun h => all_on (p := secretB) hp.out hy.out h)
          have hp0 := Lib.hid (fun h => hno.out k y hy.out h)
          generalize secretB y = ok at q hp1 hp0
          clear hc d42
          cases ok
          · have hr := Lib.hid (hp0.out rfl)
            clear hp0 hp1
            go_wp2_with (go_at_call 48; (with_reducible refine q.mono ?_); rintro e w6 ⟨rfl, rfl⟩)
            go_ret
            exact ⟨ret_int hr.out.symm, hbx.out _ hb⟩
          · have hp2 := Lib.hid (hp1.out rfl)
            clear hp0 hp1
            go_wp2_with (go_at_call 48; (with_reducible refine q.mono ?_); rintro e w6 ⟨rfl, rfl⟩)
            go_simp
            first | exact ⟨⟨k + 1, by omega, by go_num, hp2⟩, by simp [intOf]; omega⟩ | exact ⟨⟨k + 1, by omega, by go_num, hb, hp2⟩, by simp [intOf]; omega⟩
        · have hall : Hid (x.secs.all secretB = true) := Lib.hid (List.all_eq_true.2 (by have := hp.out; rwa [List.take_of_length_le (by omega)] at this))
          rw [if_pos ⟨h5.out, hall.out⟩] at hv2
          clear hall hp hno
          go_wp2_with fail
          clear d9 d42
          generalize hfl : x.faults = l at *
          go_loopw [6] (fun i wr => ∃ k : Nat, k ≤ l.length ∧ i = .int .i64 k ∧ Below w1.heap.size w1 wr ∧ Hid (slpsB none l = slpsB (prevS l k) (l.drop k))) (fun i _ => l.length - (intOf i).toNat)
          case atStart => exact ⟨0, Nat.zero_le _, rfl, hb, Lib.hid rfl⟩
          case round =>
            clear hb
            obtain ⟨k, hkn, rfl, hb, hp⟩ := hrel
            obtain ⟨d0, d1, d2, d3, d4, d5, d6, d7, d9, d42⟩ := KC.out _ hb
            clear d0 d1 d2 d3 d4 d5 d6 d7 d9
            by_cases hlt : k < l.length
            · obtain ⟨y, hy⟩ : ∃ y, Hid (l[k]? = some y) := ⟨_, Lib.hid (List.getElem?_eq_getElem hlt)⟩
              obtain ⟨b, off, hAf, hbb, hc⟩ := Cl_at (f := Slp.cl) (fun _ _ => rfl) ((hF.out).below hb) hlt hy.out
              have hst := Lib.hid (hp.out.trans (slps_step hy.out))
              have c0 := hc 0 (by omega)
              have c1 := hc 1 (by omega)
              have c2 := hc 2 (by omega)
              have c3 := hc 3 (by omega)
              simp only [Slp.cl, List.getElem?_cons_zero, List.getElem?_cons_succ, Nat.add_zero] at c0 c1 c2 c3
              have i0 : (0 : Int) ≤ (k : Int) := by omega
              have i1 : (k : Int) < (l.length : Int) := by omega
              rw [hAf] at d42
              have BY := Blk.new wr 71 #[.int .i64 y.run, .int .i64 y.leg, .int .i64 y.kind, .int .i64 y.at_] _ rfl
              have hb2 := bAl hb (.cells #[.int .i64 y.run, .int .i64 y.leg, .int .i64 y.kind, .int .i64 y.at_] 71)
              have hF2 := Lib.hid (hF.out.below hb2)
              have hm8 : wr.heap.size < (wr.alloc (.cells #[.int .i64 y.run, .int .i64 y.leg, .int .i64 y.kind, .int .i64 y.at_] 71)).heap.size := BY.lt
              clear hc hp
              go_upto_region 30 with fail
              clear d42 c0 c1 c2 c3
              generalize wr.alloc (.cells #[.int .i64 y.run, .int .i64 y.leg, .int .i64 y.kind, .int .i64 y.at_] 71) = wz at *
              generalize wr.heap.size = yb at *
              have KS : Hid (∀ w', Below wz.heap.size wz w' → w'.cell? ⟨yb, 0, none⟩ = some (.int .i64 y.run) ∧ w'.cell? ⟨yb, 1, none⟩ = some (.int .i64 y.leg)) := Lib.hid (fun w' h => ⟨(BY.below h BY.lt).cell 0, (BY.below h BY.lt).cell 1⟩)
              by_cases a1 : y.run < 0
              · have hr : Hid (v = 530) := Lib.hid (by
                  have e : slpB y = false := by unfold slpB; simp; omega
                  rw [← hv2.out, hst.out, e]
                  cases prevS l k <;> simp)
                clear hv2 hst
                refine wp_region_schN (g := 0) KS [(0, 1), (1, 2), (2, 1), (3, 1), (4, 1), (5, 1), (6, 1), (7, 1), (8, 1), (9, 1), (10, 1), (11, 1), (12, 1), (13, 1), (14, 1), (15, 1), (16, 1), (17, 1), (18, 1), (19, 1), (20, 0), (21, 1), (22, 1), (23, 1)] ?_
                simp only [pickS, List.getElem?_cons_zero, List.getElem?_cons_succ]
                refine wpSchedN_t ?_
                refine wpSchedN_r ?_
                refine wpSchedN_t ?_
                refine wpSchedN_t ?_
                refine wpSchedN_p ?_
                refine wpSchedN_p ?_
                refine wpSchedN_p ?_
                refine wpSchedN_p ?_
                refine wpSchedN_t ?_
                refine wpSchedN_t ?_
                refine wpSchedN_p ?_
                refine wpSchedN_p ?_
                refine wpSchedN_p ?_
                refine wpSchedN_p ?_
                refine wpSchedN_p ?_
                refine wpSchedN_p ?_
                refine wpSchedN_p ?_
                refine wpSchedN_p ?_
                refine wpSchedN_p ?_
                refine wpSchedN_p ?_
                refine wpSchedN_force (fun K hK => ?_)
                go_simp
                refine shut_go hK KS ?_
                clear hK K
                refine wpSchedN_p ?_
                refine wpSchedN_p ?_
                refine wpSchedN_t ?_
                refine anyN_end ?_
                refine NoPanic.normal ?_
                go_wp2_with fail
                go_ret
                exact ⟨ret_int hr.out.symm, hbx.out _ (bDr hb2)⟩
              by_cases a2 : y.leg < 0
              · have hr : Hid (v = 530) := Lib.hid (by
                  have e : slpB y = false := by unfold slpB; simp; omega
                  rw [← hv2.out, hst.out, e]
                  cases prevS l k <;> simp)
                clear hv2 hst
                refine wp_region_schN (g := 0) KS [(0, 1), (1, 2), (2, 1), (3, 1), (4, 1), (5, 1), (6, 2), (7, 1), (8, 1), (9, 1), (10, 1), (11, 1), (12, 1), (13, 1), (14, 1), (15, 1), (16, 1), (17, 1), (18, 1), (19, 1), (20, 0), (21, 1), (22, 1), (23, 1)] ?_
                simp only [pickS, List.getElem?_cons_zero, List.getElem?_cons_succ]
                refine wpSchedN_t ?_
                refine wpSchedN_r ?_
                refine wpSchedN_t ?_
                refine wpSchedN_t ?_
                refine wpSchedN_t ?_
                refine wpSchedN_t ?_
                refine wpSchedN_r ?_
                refine wpSchedN_t ?_
                refine wpSchedN_t ?_
                refine wpSchedN_t ?_
                refine wpSchedN_p ?_
                refine wpSchedN_p ?_
                refine wpSchedN_p ?_
                refine wpSchedN_p ?_
                refine wpSchedN_p ?_
                refine wpSchedN_p ?_
                refine wpSchedN_p ?_
                refine wpSchedN_p ?_
                refine wpSchedN_p ?_
                refine wpSchedN_p ?_
                refine wpSchedN_force (fun K hK => ?_)
                go_simp
                refine shut_go hK KS ?_
                clear hK K
                refine wpSchedN_p ?_
                refine wpSchedN_p ?_
                refine wpSchedN_t ?_
                refine anyN_end ?_
                refine NoPanic.normal ?_
                go_wp2_with fail
                go_ret
                exact ⟨ret_int hr.out.symm, hbx.out _ (bDr hb2)⟩
              have hyb : Hid (slpB y = true) := Lib.hid (by unfold slpB; simp; omega)
              rcases k with _ | j
              · have hp2 : Hid (slpsB none l = slpsB (prevS l (0 + 1)) (l.drop (0 + 1))) := Lib.hid (by
                  rw [hst.out]; simp only [prevS]; rw [hyb.out, Bool.true_and])
                clear hst hyb i0 i1
                refine wp_region_schN (g := 0) KS [(0, 1), (1, 2), (2, 1), (3, 1), (4, 1), (5, 1), (6, 2), (7, 1), (8, 1), (9, 1), (10, 1), (11, 1), (12, 1), (13, 1), (14, 1), (15, 1), (16, 1), (17, 1), (18, 1), (19, 1), (20, 0), (21, 1), (22, 1), (23, 1)] ?_
                simp only [pickS, List.getElem?_cons_zero, List.getElem?_cons_succ]
                refine wpSchedN_t ?_
                refine wpSchedN_r ?_
                refine wpSchedN_t ?_
                refine wpSchedN_t ?_
                refine wpSchedN_t ?_
                refine wpSchedN_t ?_
                refine wpSchedN_r ?_
                refine wpSchedN_t ?_
                refine wpSchedN_t ?_
                refine wpSchedN_t ?_
                refine wpSchedN_t ?_
                refine wpSchedN_t ?_
                refine wpSchedN_t ?_
                refine wpSchedN_p ?_
                refine wpSchedN_p ?_
                refine wpSchedN_p ?_
                refine wpSchedN_p ?_
                refine wpSchedN_p ?_
                refine wpSchedN_p ?_
                refine wpSchedN_p ?_
                refine wpSchedN_force (fun K hK => ?_)
                go_simp
                refine shut_go hK KS ?_
                clear hK K
                refine wpSchedN_p ?_
                refine wpSchedN_t ?_
                refine wpSchedN_t ?_
                refine anyN_end ?_
                refine NoPanic.normal ?_
                have hb5 := bDr hb2
                go_wp2_with fail
                (try go_simp)
                first | exact ⟨⟨0 + 1, by omega, by go_num, hp2⟩, by simp [intOf]; omega⟩ | exact ⟨⟨0 + 1, by omega, by go_num, hb5, hp2⟩, by simp [intOf]; omega⟩
              · obtain ⟨z, hz⟩ : ∃ z, Hid (l[j]? = some z) := ⟨_, Lib.hid (List.getElem?_eq_getElem (by omega))⟩
                have hst2 : Hid (slpsB none l = (decide (z.run < y.run ∨ z.run = y.run ∧ z.leg < y.leg) && slpsB (prevS l (j + 1 + 1)) (l.drop (j + 1 + 1)))) := Lib.hid (by
                  rw [hst.out, show prevS l (j + 1) = some z from hz.out]; simp only [hyb.out, Bool.true_and])
                clear hst hyb
                obtain ⟨b9, o9, e9, l9, L1⟩ := el_load (f := Slp.cl) (fun _ _ => rfl) hF2.out (show j < l.length by omega) hz.out Tryz.underlying71 rfl (by kernel_rfl) (hb2.size)
                rw [hAf] at e9
                injection e9 with e9
                injection e9 with e8 e9
                subst e8
                subst e9
                have q : Hid (∀ w', Calls Tryz.prog 49 #[.agg z.cl.toArray, .agg #[.int .i64 y.run, .int .i64 y.leg, .int .i64 y.kind, .int .i64 y.at_]] w' (Ret (.bool (decide (z.run < y.run ∨ z.run = y.run ∧ z.leg < y.leg))) w')) := Lib.hid (fun w' => ra_before z y w')
                have KT : Hid (∀ w', Below wz.heap.size wz w' → (Instr.loadAt 71 (.pointer (some ⟨b, off + j * 4, none⟩))).run Tryz.prog w' = .ok (.agg z.cl.toArray) w' ∧ (Instr.loadAt 71 (.pointer (some ⟨yb, 0, none⟩))).run Tryz.prog w' = .ok (.agg #[.int .i64 y.run, .int .i64 y.leg, .int .i64 y.kind, .int .i64 y.at_]) w' ∧ w'.cell? ⟨yb, 0, none⟩ = some (.int .i64 y.run) ∧ w'.cell? ⟨yb, 1, none⟩ = some (.int .i64 y.leg) ∧ w'.cell? ⟨W.heap.size, 42, none⟩ = some (.slice (some ⟨b, off, none⟩) l.length s.cf)) := Lib.hid (fun w' h => ⟨L1 w' h, load_blk (BY.below h BY.lt) Tryz.underlying71 rfl (by kernel_rfl), (KS.out w' h).1, (KS.out w' h).2, hAf ▸ (KC.out _ (bCall hb2 h)).2.2.2.2.2.2.2.2.2⟩)
                generalize decide (z.run < y.run ∨ z.run = y.run ∧ z.leg < y.leg) = ok at q hst2
                generalize z.cl.toArray = Z at *
                have j0 : (0 : Int) < (j : Int) + 1 := by omega
                have jw : IntKind.i64.wrap (j : Int) = (j : Int) := by rw [IntKind.wrap_i64]; omega
                have j1 : (0 : Int) ≤ (j : Int) := by omega
                have j2 : (j : Int) < (l.length : Int) := by omega
                clear KS L1 hz i0 i1
                cases ok
                · have hr : Hid (v = 530) := Lib.hid (by rw [← hv2.out, hst2.out]; rfl)
                  clear hst2 hv2
                  refine wp_region_schN (g := 0) KT [(0, 1), (1, 2), (2, 1), (3, 1), (4, 1), (5, 1), (6, 2), (7, 1), (8, 1), (9, 1), (10, 1), (11, 1), (12, 1), (13, 1), (14, 2), (15, 1), (16, 1), (17, 1), (18, 2), (19, 2), (20, 0), (21, 1), (22, 1), (23, 1)] ?_
                  simp only [pickS, List.getElem?_cons_zero, List.getElem?_cons_succ]
                  refine wpSchedN_t ?_
                  refine wpSchedN_r ?_
                  refine wpSchedN_t ?_
                  refine wpSchedN_t ?_
                  refine wpSchedN_t ?_
                  refine wpSchedN_t ?_
                  refine wpSchedN_r ?_
                  refine wpSchedN_t ?_
                  refine wpSchedN_t ?_
                  refine wpSchedN_t ?_
                  refine wpSchedN_t ?_
                  refine wpSchedN_t ?_
                  refine wpSchedN_t ?_
                  refine wpSchedN_t ?_
                  refine wpSchedN_r ?_
                  refine wpSchedN_t ?_
                  refine wpSchedN_t ?_
                  refine wpSchedN_t ?_
                  refine wpSchedN_r (v := ?vq2) (hv := ?hq2) ?_; case hq2 => (intro w hSw; (first | refine (exec_load rfl rfl hSw).trans ?_ | refine (exec_load rfl rfl hSw.1).trans ?_ | refine (exec_load rfl rfl hSw.2.1).trans ?_ | refine (exec_load rfl rfl hSw.2.2.1).trans ?_ | refine (exec_load rfl rfl hSw.2).trans ?_ | refine (exec_load rfl rfl hSw.2.2).trans ?_); with_reducible rfl)
                  refine wpSchedN_r (v := ?vq3) (hv := ?hq3) ?_; case hq3 => (intro w hSw; (first | refine (exec_load rfl rfl hSw).trans ?_ | refine (exec_load rfl rfl hSw.1).trans ?_ | refine (exec_load rfl rfl hSw.2.1).trans ?_ | refine (exec_load rfl rfl hSw.2.2.1).trans ?_ | refine (exec_load rfl rfl hSw.2).trans ?_ | refine (exec_load rfl rfl hSw.2.2).trans ?_); with_reducible rfl)
                  refine wpSchedN_force (fun K hK => ?_)
                  go_simp; (first | (go_at_call 49; (with_reducible refine (q.out _).mono ?_); rintro e w6 ⟨rfl, b6⟩; have B6 : Below wz.heap.size wz w6 := bCall (bDr (bRefl _)) b6) | skip)
                  refine shut_go hK KT ?_
                  clear hK K
                  refine wpSchedN_t ?_
                  refine wpSchedN_t ?_
                  refine wpSchedN_t ?_
                  refine anyN_end ?_
                  refine NoPanic.normal ?_
                  go_wp2_with fail
                  go_ret
                  exact ⟨ret_int hr.out.symm, hbx.out _ (bCall hb2 B6)⟩
                · have hp2 : Hid (slpsB none l = slpsB (prevS l (j + 1 + 1)) (l.drop (j + 1 + 1))) := Lib.hid (by rw [hst2.out, Bool.true_and])
                  clear hst2
                  refine wp_region_schN (g := 0) KT [(0, 1), (1, 2), (2, 1), (3, 1), (4, 1), (5, 1), (6, 2), (7, 1), (8, 1), (9, 1), (10, 1), (11, 1), (12, 1), (13, 1), (14, 2), (15, 1), (16, 1), (17, 1), (18, 2), (19, 2), (20, 0), (21, 1), (22, 1), (23, 1)] ?_
                  simp only [pickS, List.getElem?_cons_zero, List.getElem?_cons_succ]
                  refine wpSchedN_t ?_
                  refine wpSchedN_r ?_
                  refine wpSchedN_t ?_
                  refine wpSchedN_t ?_
                  refine wpSchedN_t ?_
                  refine wpSchedN_t ?_
                  refine wpSchedN_r ?_
                  refine wpSchedN_t ?_
                  refine wpSchedN_t ?_
                  refine wpSchedN_t ?_
                  refine wpSchedN_t ?_
                  refine wpSchedN_t ?_
                  refine wpSchedN_t ?_
                  refine wpSchedN_t ?_
                  refine wpSchedN_r ?_
                  refine wpSchedN_t ?_
                  refine wpSchedN_t ?_
                  refine wpSchedN_t ?_
                  refine wpSchedN_r (v := ?vq4) (hv := ?hq4) ?_; case hq4 => (intro w hSw; (first | refine (exec_load rfl rfl hSw).trans ?_ | refine (exec_load rfl rfl hSw.1).trans ?_ | refine (exec_load rfl rfl hSw.2.1).trans ?_ | refine (exec_load rfl rfl hSw.2.2.1).trans ?_ | refine (exec_load rfl rfl hSw.2).trans ?_ | refine (exec_load rfl rfl hSw.2.2).trans ?_); with_reducible rfl)
                  refine wpSchedN_r (v := ?vq5) (hv := ?hq5) ?_; case hq5 => (intro w hSw; (first | refine (exec_load rfl rfl hSw).trans ?_ | refine (exec_load rfl rfl hSw.1).trans ?_ | refine (exec_load rfl rfl hSw.2.1).trans ?_ | refine (exec_load rfl rfl hSw.2.2.1).trans ?_ | refine (exec_load rfl rfl hSw.2).trans ?_ | refine (exec_load rfl rfl hSw.2.2).trans ?_); with_reducible rfl)
                  refine wpSchedN_force (fun K hK => ?_)
                  go_simp; (first | (go_at_call 49; (with_reducible refine (q.out _).mono ?_); rintro e w6 ⟨rfl, b6⟩; have B6 : Below wz.heap.size wz w6 := bCall (bDr (bRefl _)) b6) | skip)
                  refine shut_go hK KT ?_
                  clear hK K
                  refine wpSchedN_t ?_
                  refine wpSchedN_t ?_
                  refine wpSchedN_t ?_
                  refine anyN_end ?_
                  refine NoPanic.normal ?_
                  have hb5 := bCall hb2 B6
                  go_wp2_with fail
                  (try go_simp)
                  first | exact ⟨⟨j + 1 + 1, by omega, by go_num, hp2⟩, by simp [intOf]; omega⟩ | exact ⟨⟨j + 1 + 1, by omega, by go_num, hb5, hp2⟩, by simp [intOf]; omega⟩
            · have hr : Hid (v = 0) := Lib.hid (by rw [← hv2.out, hp.out, List.drop_of_length_le (by omega)]; cases prevS l k <;> rfl)
              clear hp hv2
              go_wp2_with fail
              go_ret
              exact ⟨ret_int hr.out.symm, hbx.out _ hb⟩
def Low (N : Nat) (A : Option Addr) (n : Nat) : Prop := ∀ p : Addr, A = some p → 0 < n → N ≤ p.block
theorem Low.of {N g n off : Nat} (h : N ≤ g) : Low N (some ⟨g, off, none⟩) n := by
  intro p e _
  injection e with e
  rw [← e]
  exact h
theorem Low.zero {N : Nat} {A : Option Addr} : Low N A 0 := fun _ _ h => absurd h (by omega)
def LinLow (N : Nat) (q : LS) (y : Lin) : Prop := Low N q.a0 y.offs.length ∧ Low N q.a1 y.legs.length ∧ Low N q.a2 y.rules.length ∧ Low N q.a3 y.off.length
def LinsN (w : World) (B N : Nat) (A : Option Addr) (l : List Lin) : Prop :=
  ∃ ls : List LS, ls.length = l.length ∧ Rd w B 6 A l.length (linsCl ls l) ∧ Low N A l.length ∧ ∀ (k : Nat) (y : Lin), l[k]? = some y → ∃ q, ls[k]? = some q ∧ LinAt w B q y ∧ y.offs.length ≤ q.c0 ∧ LinLow N q y
structure WK (w : World) (B N : Nat) (s : WS) (x : Wld) : Prop where
  rl : LinsN w B N s.al x.lines
  rb : Rd w B 1 s.ab x.base.length (ints x.base) ∧ Low N s.ab x.base.length
  rg : Rd w B 1 s.ag x.leg.length (ints x.leg) ∧ Low N s.ag x.leg.length
  rt : Rd w B 2 s.at_ x.tiers.length (x.tiers.flatMap Tie.cl) ∧ Low N s.at_ x.tiers.length
  ro : ∃ vs : List Value, vs.length = x.orders.length ∧ Rd w B 11 s.ao x.orders.length (odrsCl x.orders vs) ∧ ∀ (k : Nat) (y : Odr), x.orders[k]? = some y → ∃ A c, vs[k]? = some (Value.slice A y.ag.length c) ∧ Rd w B 1 A y.ag.length (ints y.ag) ∧ Low N A y.ag.length
  lo : Low N s.ao x.orders.length
  re : Rd w B 8 s.ae x.ents.length (x.ents.flatMap Ent.cl) ∧ Low N s.ae x.ents.length
  rs : Rd w B 1 s.as_ x.secs.length (ints x.secs) ∧ Low N s.as_ x.secs.length
  rf : Rd w B 4 s.af x.faults.length (x.faults.flatMap Slp.cl) ∧ Low N s.af x.faults.length
section
variable {w w' : World} {B B' N : Nat} {s : WS} {x : Wld} {A : Option Addr} {l : List Lin}
theorem LinsN.below (h : LinsN w B N A l) (b : Below B w w') : LinsN w' B N A l := by
  obtain ⟨ls, l1, l2, l3, l4⟩ := h
  exact ⟨ls, l1, l2.below b, l3, fun k y hy => by obtain ⟨q, e, r, c⟩ := l4 k y hy; exact ⟨q, e, r.below b, c⟩⟩
theorem LinsN.more (h : LinsN w B N A l) (b : B ≤ B') : LinsN w B' N A l := by
  obtain ⟨ls, l1, l2, l3, l4⟩ := h
  exact ⟨ls, l1, l2.more b, l3, fun k y hy => by obtain ⟨q, e, r, c⟩ := l4 k y hy; exact ⟨q, e, r.more b, c⟩⟩
theorem LinsN.lc (h : LinsN w B N A l) : LinsC w B A l := by
  obtain ⟨ls, l1, l2, l3, l4⟩ := h
  exact ⟨ls, l1, l2, fun k y hy => by obtain ⟨q, e, r, c, _⟩ := l4 k y hy; exact ⟨q, e, r, c⟩⟩
theorem WK.below (h : WK w B N s x) (b : Below B w w') : WK w' B N s x :=
  ⟨h.rl.below b, ⟨h.rb.1.below b, h.rb.2⟩, ⟨h.rg.1.below b, h.rg.2⟩, ⟨h.rt.1.below b, h.rt.2⟩, by
    obtain ⟨vs, v1, v2, v3⟩ := h.ro
    exact ⟨vs, v1, v2.below b, fun k y hy => by obtain ⟨A, c, e, r, o⟩ := v3 k y hy; exact ⟨A, c, e, r.below b, o⟩⟩, h.lo, ⟨h.re.1.below b, h.re.2⟩, ⟨h.rs.1.below b, h.rs.2⟩, ⟨h.rf.1.below b, h.rf.2⟩⟩
theorem WK.more (h : WK w B N s x) (b : B ≤ B') : WK w B' N s x :=
  ⟨h.rl.more b, ⟨h.rb.1.more b, h.rb.2⟩, ⟨h.rg.1.more b, h.rg.2⟩, ⟨h.rt.1.more b, h.rt.2⟩, by
    obtain ⟨vs, v1, v2, v3⟩ := h.ro
    exact ⟨vs, v1, v2.more b, fun k y hy => by obtain ⟨A, c, e, r, o⟩ := v3 k y hy; exact ⟨A, c, e, r.more b, o⟩⟩, h.lo, ⟨h.re.1.more b, h.re.2⟩, ⟨h.rs.1.more b, h.rs.2⟩, ⟨h.rf.1.more b, h.rf.2⟩⟩
theorem WK.wld (h : WK w B N s x) : WldAt w B s x :=
  ⟨by
    obtain ⟨ls, l1, l2, l3, l4⟩ := h.rl
    exact ⟨ls, l1, l2, fun k y hy => by obtain ⟨q, e, r, _⟩ := l4 k y hy; exact ⟨q, e, r⟩⟩, h.rb.1, h.rg.1, h.rt.1, by
    obtain ⟨vs, v1, v2, v3⟩ := h.ro
    exact ⟨vs, v1, v2, fun k y hy => by obtain ⟨A, c, e, r, _⟩ := v3 k y hy; exact ⟨A, c, e, r⟩⟩, h.re.1, h.rs.1, h.rf.1⟩
end
def LineR (N : Nat) (o : Option Wld) (W : World) (e : Ending) (w' : World) : Prop :=
  (match o with
    | some x => ∃ s : WS, e = .returned (.tuple #[.agg (s.cl x).toArray, .bool true]) ∧ WK w' w'.heap.size N s x ∧ x.seed.length = 32 ∧ ∀ d ∈ x.seed, d < 256
    | none => ∃ X : Array Value, X.size = 43 ∧ (∀ v ∈ X.toList, v.oneCell' = true) ∧ e = .returned (.tuple #[.agg X, .bool false])) ∧ Below W.heap.size W w'
theorem LineR.no {N : Nat} {o : Option Wld} {W w' : World} {X : Array Value} (h : o = none) (b : Below W.heap.size W w') (hX : X.size = 43) (h1 : ∀ v ∈ X.toList, v.oneCell' = true) : LineR N o W (.returned (.tuple #[.agg X, .bool false])) w' := by rw [h]; exact ⟨⟨X, hX, h1, rfl⟩, b⟩
theorem LineR.yes {N : Nat} {o : Option Wld} {W w' : World} {s : WS} {x : Wld} (h : o = some x) (b : Below W.heap.size W w') (hk : WK w' w'.heap.size N s x) (hl : x.seed.length = 32) (hd : ∀ d ∈ x.seed, d < 256) : LineR N o W (.returned (.tuple #[.agg (s.cl x).toArray, .bool true])) w' := by rw [h]; exact ⟨⟨s, rfl, hk, hl, hd⟩, b⟩
def LineS (s : WS) (o : Option Wld) (W : World) (e : Ending) (w' : World) : Prop :=
  (match o with
    | some x => e = .returned (.tuple #[.agg (s.cl x).toArray, .bool true]) ∧ x.seed.length = 32 ∧ ∀ d ∈ x.seed, d < 256
    | none => ∃ X : Array Value, X.size = 43 ∧ (∀ v ∈ X.toList, v.oneCell' = true) ∧ e = .returned (.tuple #[.agg X, .bool false])) ∧ Below W.heap.size W w'
theorem LineS.no {s : WS} {o : Option Wld} {W w' : World} {X : Array Value} (h : o = none) (b : Below W.heap.size W w') (hX : X.size = 43) (h1 : ∀ v ∈ X.toList, v.oneCell' = true) : LineS s o W (.returned (.tuple #[.agg X, .bool false])) w' := by rw [h]; exact ⟨⟨X, hX, h1, rfl⟩, b⟩
theorem LineS.yes {s : WS} {o : Option Wld} {W w' : World} {x : Wld} (h : o = some x) (b : Below W.heap.size W w') (hl : x.seed.length = 32) (hd : ∀ d ∈ x.seed, d < 256) : LineS s o W (.returned (.tuple #[.agg (s.cl x).toArray, .bool true])) w' := by rw [h]; exact ⟨⟨rfl, hl, hd⟩, b⟩
theorem line_leaves {fn : Func} {R : Ending → World → Prop} {w : World} {tmps : Array Value} {X : Array Value} {b : Bool} {g : Nat} {ds : List Deferred} (hf : fn.results = #[.cell 4 35, .tmp 5]) (h2 : tmps[4]?.getD undef = .pointer (some ⟨g, 0, none⟩)) (h3 : tmps[5]?.getD undef = .bool b) (hX : X.size = 43) (B : Blk w g 35 X) (h : R (.returned (.tuple #[.agg X, .bool b])) w) (hd : ds = []) :
    bodyPost Tryz.prog fn R .ret { tmps := tmps, defers := ds } w := by
  have e0 := run_loadVar_row w g 35 35 X _ _ B Tryz.underlying35 rfl (by rw [hX]; exact world_info)
  subst hd
  refine bodyPost_ret (v := .tuple #[.agg X, .bool b]) ?_ rfl h
  simp [results, hf, h2, h3, asAddr, e0]
theorem world_r (x : Wld) (s0 s1 s2 s3 : ByteArray) : readR x 1 (bys [s0, s1, s2, s3]) = match numsO (bys [s0, s1, s2]) with
    | some [a, b, c] => (seedO s3.data.toList).map (fun d => { x with people := a, covers := b, offs := c, seed := d })
    | _ => none := by
  have hr : readR x 1 (bys [s0, s1, s2, s3]) = (match numO s0.data.toList, numO s1.data.toList, numO s2.data.toList, seedO s3.data.toList with
    | some x1, some y, some z, some s => some { x with people := x1, covers := y, offs := z, seed := s }
    | _, _, _, _ => none) := rfl
  rw [hr]
  show _ = match numsO [s0.data.toList, s1.data.toList, s2.data.toList] with
    | some [a, b, c] => (seedO s3.data.toList).map (fun d => { x with people := a, covers := b, offs := c, seed := d })
    | _ => none
  unfold numsO numsO numsO numsO
  cases numO s0.data.toList with
  | none => rfl
  | some a =>
    cases numO s1.data.toList with
    | none => rfl
    | some b =>
      cases numO s2.data.toList with
      | none => rfl
      | some c => cases seedO s3.data.toList <;> rfl
theorem world_no (x : Wld) {l : List By} (h : l.length ≠ 4) : readR x 1 l = none := by
  match l, h with
  | [], _ => rfl
  | [_], _ => rfl
  | [_, _], _ => rfl
  | [_, _, _], _ => rfl
  | _ :: _ :: _ :: _ :: _ :: _, _ => rfl
theorem set_seed {s : WS} {x : Wld} {d : List Nat} (hx : x.seed.length = 32) (hd : d.length = 32) : ((s.cl x).toArray.toList.take 10 ++ (byts d).toArray.toList ++ (s.cl x).toArray.toList.drop (10 + (byts d).toArray.size)).toArray = (s.cl { x with seed := d }).toArray := by
  refine congrArg List.toArray ?_
  rw [List.size_toArray, byts_length, hd]
  unfold WS.cl
  rw [List.toList_toArray]
  rw [List.take_append_of_le_length (by simp), List.take_of_length_le (by simp), List.drop_append, List.drop_of_length_le (by simp)]
  simp only [List.length_cons, List.length_nil, List.nil_append]
  rw [List.drop_append, List.drop_of_length_le (by simp [byts_length, hx]), List.nil_append]
  simp [byts_length, hx]
def SeedS (o : Option (List Nat)) (W : World) (e : Ending) (w' : World) : Prop := ∃ (D : Array Value) (ok : Bool), e = .returned (.tuple #[.agg D, .bool ok]) ∧ D.size = 32 ∧ (∀ v ∈ D.toList, v.oneCell' = true) ∧ (match o with | some y => D = (byts y).toArray ∧ ok = true ∧ y.length = 32 ∧ ∀ x ∈ y, x < 256 | none => ok = false) ∧ Below W.heap.size W w'
theorem SeedS.of {o : Option (List Nat)} {W w' : World} {e : Ending} (h : SeedR o W e w') : SeedS o W e w' := by
  obtain ⟨h, b⟩ := h
  cases o with
  | none => exact ⟨_, _, h, by rw [List.size_toArray, byts_length]; rfl, byts_oneCell, rfl, b⟩
  | some y => exact ⟨_, _, h.1, by rw [List.size_toArray, byts_length, h.2.1], byts_oneCell, ⟨rfl, rfl, h.2⟩, b⟩
theorem rp_world (s : WS) (x : Wld) (A : Option Addr) (c : Nat) (l : List ByteArray) (W : World) (hsd : x.seed.length = 32) (hA : Rd W W.heap.size 1 A l.length (strs l)) (hcap : l.length ≤ c) (hl : ∀ t ∈ l, t.size ≤ 1000000) :
    Calls Tryz.prog 58 #[.agg (s.cl x).toArray, .slice A l.length c] W (LineS s (readR x 1 (bys l.tail)) W) := by
  have hXs : (s.cl x).toArray.size = 43 := wsCl_size hsd
  have hX1 : ∀ v ∈ (s.cl x).toArray.toList, v.oneCell' = true := ws_cell
  have hZs : (nilWS.cl zeroW).toArray.size = 43 := wsCl_size rfl
  obtain ⟨o, ho⟩ : ∃ o, Hid (readR x 1 (bys l.tail) = o) := ⟨_, Lib.hid rfl⟩
  rw [ho.out]
  have hset : Hid (∀ a b d : Int, ∀ y : List Nat, ((((s.cl x).toArray.setIfInBounds 6 (.int .i64 a)).setIfInBounds 8 (.int .i64 b)).setIfInBounds 0 (.int .i64 d)) = (s.cl { x with people := a, covers := b, offs := d }).toArray) := Lib.hid (fun a b d y => by
    rw [List.setIfInBounds_toArray, List.setIfInBounds_toArray, List.setIfInBounds_toArray]
    refine congrArg List.toArray ?_
    simp [WS.cl])
  have hset2 : Hid (∀ a b d : Int, ∀ y : List Nat, ∀ D : Array Value, Hid ((byts y).toArray = D) → y.length = 32 → ((s.cl { x with people := a, covers := b, offs := d }).toArray.toList.take 10 ++ D.toList ++ (s.cl { x with people := a, covers := b, offs := d }).toArray.toList.drop (10 + D.size)).toArray = (s.cl { x with people := a, covers := b, offs := d, seed := y }).toArray) := Lib.hid (fun a b d y D hD hy => by rw [← hD.out]; exact set_seed (x := { x with people := a, covers := b, offs := d }) hsd hy)
  have hy1 : Hid (∀ a b d : Int, ∀ y : List Nat, y.length = 32 → (s.cl { x with people := a, covers := b, offs := d, seed := y }).toArray.size = 43) := Lib.hid (fun a b d y hy => wsCl_size hy)
  have h6 : (s.cl x).toArray[6]? = some (.int .i64 x.people) := ws_at (k := 6) rfl
  have h8 : (s.cl x).toArray[8]? = some (.int .i64 x.covers) := ws_at (k := 8) rfl
  have h0 : (s.cl x).toArray[0]? = some (.int .i64 x.offs) := ws_at (k := 0) rfl
  have BX := Blk.new W 35 (s.cl x).toArray _ rfl
  have hb := bAl (bRefl W) (.cells (s.cl x).toArray 35)
  have hw1 : (W.alloc (.cells (s.cl x).toArray 35)).heap.size = W.heap.size + 1 := by simp
  have BR := Blk.new (W.alloc (.cells (s.cl x).toArray 35)) 35 (nilWS.cl zeroW).toArray _ hw1.symm
  replace BX := BX.alloc (.cells (nilWS.cl zeroW).toArray 35)
  replace hb := bAl hb (.cells (nilWS.cl zeroW).toArray 35)
  obtain ⟨X, hX⟩ : ∃ X, Hid ((s.cl x).toArray = X) := ⟨_, Lib.hid rfl⟩
  rw [hX.out] at hXs hX1 hset h6 h8 h0 BX BR hb hw1 ⊢
  go_enter Tryz.func58, Tryz.ntmps58
  go_upto_region 1 with fail
  refine (show Code.wp _ _ _ _ ((W.alloc (.cells X 35)).alloc (.cells (nilWS.cl zeroW).toArray 35)) from ?_)
  generalize (nilWS.cl zeroW).toArray = ZW at *
  generalize (W.alloc (.cells X 35)).alloc (.cells ZW 35) = w1 at *
  clear hw1
  by_cases h5 : (l.length : Int) = 5
  case neg =>
    have hno : Hid (o = none) := Lib.hid (by rw [← ho.out]; exact world_no x (by unfold bys; rw [List.length_map, List.length_tail]; omega))
    have g5 : ((l.length : Int) != 5) = true := by rw [bne_iff_ne]; exact h5
    go_upto_region 2 with fail
    apply wp_region_lit
    refine wpList_loadG (by rfl) (by rfl) (by rfl) (load_blk BX Tryz.underlying35 rfl (by rw [hXs]; exact world_info)) ?_
    simp only [Act.put]
    refine wpList_storeG (by rfl) (by rfl) (by rfl) (by rfl) (store_whole BR (by rw [hXs]; exact world_info) (by rw [hZs, hXs]) hX1) ?_
    simp only [Act.put]
    have b9 := below_setRowP hb (Nat.le_succ W.heap.size) X
    have B9 := BR.row X
    go_wp2_with fail
    exact line_leaves rfl rfl rfl hXs B9 (LineS.no hno.out b9 hXs hX1) rfl
  have hl5 : l.length = 5 := by omega
  clear h5
  match l, hl5 with
  | [w0, s0, s1, s2, s3], _ =>
  have hA : Rd W W.heap.size 1 A 5 (strs [w0, s0, s1, s2, s3]) := hA
  have hcap : 5 ≤ c := hcap
  have hwr := Lib.hid (world_r x s0 s1 s2 s3)
  have ho2 : Hid (readR x 1 (bys [s0, s1, s2, s3]) = o) := ho
  rw [hwr.out] at ho2
  clear ho hwr
  obtain ⟨lb, off, rfl, hlb, hc⟩ := hA.2 (by decide)
  have c4 : W.cell? ⟨lb, off + 4, none⟩ = some (.string s3) := hc 4 _ rfl
  have hA3 : Rd W W.heap.size 1 (some ⟨lb, off + 1, none⟩) 3 (strs [s0, s1, s2]) := ⟨rfl, fun _ => ⟨lb, off + 1, rfl, hlb, fun j u hu => by
    have : off + 1 + j = off + (j + 1) := by omega
    rw [this]
    exact hc (j + 1) u (by
      match j, hu with
      | 0, hu => exact hu
      | 1, hu => exact hu
      | 2, hu => exact hu
      | j + 3, hu => simp [strs] at hu)⟩⟩
  have q1 : Hid (Calls Tryz.prog 59 #[.slice (some ⟨lb, off + 1, none⟩) 3 (c - 1)] w1 (NumsR (numsO (bys [s0, s1, s2])) w1)) := Lib.hid (rp_numbers (some ⟨lb, off + 1, none⟩) (c - 1) [s0, s1, s2] w1 ((hA3.below hb).more hb.size) (fun t ht => hl t (by simp at ht ⊢; rcases ht with h | h | h <;> simp [h])) (by simp))
  have q2 : Hid (∀ w, Calls Tryz.prog 102 #[.string s3] w (SeedS (seedO s3.data.toList) w)) := Lib.hid (fun w => (rp_readSeed s3 w).mono (fun _ _ h => SeedS.of h))
  have hlen : Hid (∀ ns, numsO (bys [s0, s1, s2]) = some ns → ns.length = 3) := Lib.hid (fun ns h => by have := numsO_len h; simpa [bys] using this)
  clear hc hA hA3 hl
  generalize numsO (bys [s0, s1, s2]) = on at *
  generalize seedO s3.data.toList = os at *
  have hc4 : (c : Int) - 1 = ((c - 1 : Nat) : Int) := by omega
  cases on with
  | none =>
    have hno : Hid (o = none) := Lib.hid ho2.out.symm
    clear ho2
    go_upto_region 4 with (go_at_call 59; (with_reducible refine q1.out.mono ?_); rintro e w3 ⟨h9, b3⟩; (simp only at h9; subst h9); have c43 := (b3.cell (p := ⟨lb, off + 4, none⟩) (Nat.lt_of_lt_of_le hlb hb.size)).trans ((hb.cell (p := ⟨lb, off + 4, none⟩) hlb).trans c4))
    go_wp2_with fail
    (with_reducible refine (q2.out _).mono ?_)
    rintro e w4 ⟨D, ok2, rfl, hDs, hD1, hos, b4⟩
    dsimp only
    iterate 13 go_step
    refine wpList_storeG (by rfl) (by rfl) (by rfl) (by rfl) (store_newW (by rw [hDs]; exact dgs_info) (by rw [hDs]; rfl) hD1) ?_
    simp only [Act.put]
    have hb4 := bCall (bCall hb b3) b4
    have BX4 := ((BX.below b3 BX.lt).below b4 (BX.below b3 BX.lt).lt).alloc (.cells D 32)
    have BR4 := ((BR.below b3 BR.lt).below b4 (BR.below b3 BR.lt).lt).alloc (.cells D 32)
    have BD4 := Blk.new w4 32 D _ rfl
    replace hb4 := bAl hb4 (.cells D 32)
    have hg4 : W.heap.size + 1 < w4.heap.size := (BR.below (b3.trans (b4.mono b3.size)) BR.lt).lt
    generalize w4.alloc (.cells D 32) = w5 at *
    go_upto_region 6 with fail
    apply wp_region_lit
    refine wpList_loadG (by rfl) (by rfl) (by rfl) (load_blk BX4 Tryz.underlying35 rfl (by rw [hXs]; exact world_info)) ?_
    simp only [Act.put]
    refine wpList_storeG (by rfl) (by rfl) (by rfl) (by rfl) (store_whole BR4 (by rw [hXs]; exact world_info) (by rw [hZs, hXs]) hX1) ?_
    simp only [Act.put]
    have b9 := below_setRowP hb4 (Nat.le_succ W.heap.size) X
    have B9 := BR4.row X
    go_wp2_with fail
    exact line_leaves rfl rfl rfl hXs B9 (LineS.no hno.out b9 hXs hX1) rfl
  | some ns =>
    have hlen2 := hlen.out ns rfl
    match ns, hlen2 with
    | [a, b, d], _ =>
    have ho3 : Hid ((os.map (fun y => ({ x with people := a, covers := b, offs := d, seed := y } : Wld))) = o) := ho2
    clear ho2 hlen hlen2
    cases os with
    | none =>
      have hno : Hid (o = none) := Lib.hid ho3.out.symm
      clear ho3
      go_upto_region 4 with (go_at_call 59; (with_reducible refine q1.out.mono ?_); rintro e w3 ⟨h9, b3⟩; (simp only at h9; obtain ⟨vn, rfl, hv⟩ := h9); have c43 := (b3.cell (p := ⟨lb, off + 4, none⟩) (Nat.lt_of_lt_of_le hlb hb.size)).trans ((hb.cell (p := ⟨lb, off + 4, none⟩) hlb).trans c4))
      go_wp2_with fail
      (with_reducible refine (q2.out _).mono ?_)
      rintro e w4 ⟨D, ok2, rfl, hDs, hD1, hos, b4⟩
      dsimp only
      iterate 13 go_step
      refine wpList_storeG (by rfl) (by rfl) (by rfl) (by rfl) (store_newW (by rw [hDs]; exact dgs_info) (by rw [hDs]; rfl) hD1) ?_
      simp only [Act.put]
      have hb4 := bCall (bCall hb b3) b4
      have BX4 := ((BX.below b3 BX.lt).below b4 (BX.below b3 BX.lt).lt).alloc (.cells D 32)
      have BR4 := ((BR.below b3 BR.lt).below b4 (BR.below b3 BR.lt).lt).alloc (.cells D 32)
      have BD4 := Blk.new w4 32 D _ rfl
      replace hb4 := bAl hb4 (.cells D 32)
      have hg4 : W.heap.size + 1 < w4.heap.size := (BR.below (b3.trans (b4.mono b3.size)) BR.lt).lt
      obtain rfl : ok2 = false := hos
      generalize w4.alloc (.cells D 32) = w5 at *
      go_upto_region 6 with fail
      apply wp_region_lit
      refine wpList_loadG (by rfl) (by rfl) (by rfl) (load_blk BX4 Tryz.underlying35 rfl (by rw [hXs]; exact world_info)) ?_
      simp only [Act.put]
      refine wpList_storeG (by rfl) (by rfl) (by rfl) (by rfl) (store_whole BR4 (by rw [hXs]; exact world_info) (by rw [hZs, hXs]) hX1) ?_
      simp only [Act.put]
      have b9 := below_setRowP hb4 (Nat.le_succ W.heap.size) X
      have B9 := BR4.row X
      go_wp2_with fail
      exact line_leaves rfl rfl rfl hXs B9 (LineS.no hno.out b9 hXs hX1) rfl
    | some y =>
      have hyes : Hid (o = some { x with people := a, covers := b, offs := d, seed := y }) := Lib.hid ho3.out.symm
      clear ho3
      go_upto_region 4 with (go_at_call 59; (with_reducible refine q1.out.mono ?_); rintro e w3 ⟨h9, b3⟩; (simp only at h9; obtain ⟨vn, rfl, hv⟩ := h9); have c43 := (b3.cell (p := ⟨lb, off + 4, none⟩) (Nat.lt_of_lt_of_le hlb hb.size)).trans ((hb.cell (p := ⟨lb, off + 4, none⟩) hlb).trans c4))
      obtain ⟨g, cap, rfl⟩ := own_two hv (by simp)
      have hv : w3.ownsRow w1.heap.size 3 1 (.slice (some ⟨g, 0, none⟩) 3 cap) 3 (ints [a, b, d]) := hv
      obtain ⟨-, hg0, cur, BG, -, -, -, htk⟩ := OwnAt.parts hv
      have d0 : w3.cell? ⟨g, 0, none⟩ = some (.int .i64 a) := own_cell hv rfl
      have d1 : w3.cell? ⟨g, 1, none⟩ = some (.int .i64 b) := own_cell hv rfl
      have d2 : w3.cell? ⟨g, 2, none⟩ = some (.int .i64 d) := own_cell hv rfl
      have hWg := hb.size
      have hXg := BR.lt
      go_wp2_with fail
      (with_reducible refine (q2.out _).mono ?_)
      rintro e w4 ⟨D, ok2, rfl, hDs, hD1, hos, b4⟩
      obtain ⟨hDe, rfl, hyl, hyb⟩ := hos; replace hDe := Lib.hid hDe
      dsimp only
      iterate 13 go_step
      refine wpList_storeG (by rfl) (by rfl) (by rfl) (by rfl) (store_newW (by rw [hDs]; exact dgs_info) (by rw [hDs]; rfl) hD1) ?_
      simp only [Act.put]
      have hb4 := bCall (bCall hb b3) b4
      have BX4 := ((BX.below b3 BX.lt).below b4 (BX.below b3 BX.lt).lt).alloc (.cells D 32)
      have BR4 := ((BR.below b3 BR.lt).below b4 (BR.below b3 BR.lt).lt).alloc (.cells D 32)
      have BD4 := Blk.new w4 32 D _ rfl
      replace hb4 := bAl hb4 (.cells D 32)
      have hg4 : W.heap.size + 1 < w4.heap.size := (BR.below (b3.trans (b4.mono b3.size)) BR.lt).lt
      have hb34 : Below w3.heap.size w3 (w4.alloc (.cells D 32)) := bAl b4 _
      have e0 := (hb34.cell (p := ⟨g, 0, none⟩) BG.lt).trans d0
      have e1 := (hb34.cell (p := ⟨g, 1, none⟩) BG.lt).trans d1
      have e2 := (hb34.cell (p := ⟨g, 2, none⟩) BG.lt).trans d2
      have hdg : w4.heap.size ≠ W.heap.size := by omega
      generalize w4.alloc (.cells D 32) = w5 at *
      clear d0 d1 d2 BX BR BG htk hv q1 q2 c43 b3 b4 hb hb34
      have r6 : w5.cell? ⟨W.heap.size, 6, none⟩ = some (.int .i64 x.people) := by rw [BX4.cell]; exact h6
      have B1 := BX4.set_ 6 (.int .i64 a)
      have B2 := B1.set_ 8 (.int .i64 b)
      have B3 := B2.set_ 0 (.int .i64 d)
      have r8 : (w5.setCell ⟨W.heap.size, 6, none⟩ (.int .i64 a)).cell? ⟨W.heap.size, 8, none⟩ = some (.int .i64 x.covers) := by rw [B1.cell, Array.getElem?_setIfInBounds_ne (by decide)]; exact h8
      have r0 : ((w5.setCell ⟨W.heap.size, 6, none⟩ (.int .i64 a)).setCell ⟨W.heap.size, 8, none⟩ (.int .i64 b)).cell? ⟨W.heap.size, 0, none⟩ = some (.int .i64 x.offs) := by rw [B2.cell, Array.getElem?_setIfInBounds_ne (by decide), Array.getElem?_setIfInBounds_ne (by decide)]; exact h0
      have z6 := BX4.frozen 6
      have z8 := B1.frozen 8
      have z0 := B2.frozen 0
      rw [hset.out a b d y] at B3
      have B3 := Lib.hid B3
      clear B1 B2
      go_upto_region 10 with fail
      have hb9 := bSet (p := ⟨W.heap.size, 0, none⟩) (bSet (p := ⟨W.heap.size, 8, none⟩) (bSet (p := ⟨W.heap.size, 6, none⟩) hb4 (Nat.le_refl _) (.int .i64 a)) (Nat.le_refl _) (.int .i64 b)) (Nat.le_refl _) (.int .i64 d)
      have BR9 := ((BR4.far (p := ⟨W.heap.size, 6, none⟩) (by simp) (.int .i64 a)).far (p := ⟨W.heap.size, 8, none⟩) (by simp) (.int .i64 b)).far (p := ⟨W.heap.size, 0, none⟩) (by simp) (.int .i64 d)
      have BD9 := ((BD4.far (p := ⟨W.heap.size, 6, none⟩) hdg (.int .i64 a)).far (p := ⟨W.heap.size, 8, none⟩) hdg (.int .i64 b)).far (p := ⟨W.heap.size, 0, none⟩) hdg (.int .i64 d)
      have B3 := B3.out
      generalize ((w5.setCell ⟨W.heap.size, 6, none⟩ (.int .i64 a)).setCell ⟨W.heap.size, 8, none⟩ (.int .i64 b)).setCell ⟨W.heap.size, 0, none⟩ (.int .i64 d) = w9 at *
      clear r6 r8 r0 z6 z8 z0 BX4 BR4 BD4 e0 e1 e2
      apply wp_region_lit
      refine wpList_loadG (by rfl) (by rfl) (by rfl) (load_blk BD9 Tryz.underlying32 rfl (by rw [hDs]; exact dgs_info)) ?_
      simp only [Act.put]
      iterate 3 go_step
      have hs2 := hset2.out a b d y D (Lib.hid hDe.out.symm) hyl
      have hcs : (s.cl { x with people := a, covers := b, offs := d }).toArray.size = 43 := wsCl_size hsd
      refine wpList_storeG (by rfl) (by rfl) (by rfl) (by rfl) (store_at B3 (by rw [hDs]; exact dgs_info) (by rw [hDs, hcs]; decide) hD1) ?_
      simp only [Act.put]
      have B4 := B3.row ((s.cl { x with people := a, covers := b, offs := d }).toArray.toList.take 10 ++ D.toList ++ (s.cl { x with people := a, covers := b, offs := d }).toArray.toList.drop (10 + D.size)).toArray
      rw [hs2] at B4 ⊢
      have hY := hy1.out a b d y hyl
      have hY1 : ∀ v ∈ (s.cl { x with people := a, covers := b, offs := d, seed := y }).toArray.toList, v.oneCell' = true := ws_cell
      have BR5 := BR9.farRow (by simp : W.heap.size + 1 ≠ W.heap.size) (s.cl { x with people := a, covers := b, offs := d, seed := y }).toArray
      have hb10 := below_setRowP hb9 (Nat.le_refl _) (s.cl { x with people := a, covers := b, offs := d, seed := y }).toArray
      have hyes2 : Hid (∀ w', Below W.heap.size W w' → LineS s o W (.returned (.tuple #[.agg (s.cl { x with people := a, covers := b, offs := d, seed := y }).toArray, .bool true])) w') := Lib.hid (fun w' bb => LineS.yes hyes.out bb hyl hyb)
      generalize (s.cl { x with people := a, covers := b, offs := d, seed := y }).toArray = Y at *
      generalize w9.setRow W.heap.size Y = w10 at *
      go_upto_region 11 with fail
      apply wp_region_lit
      refine wpList_loadG (by rfl) (by rfl) (by rfl) (load_blk B4 Tryz.underlying35 rfl (by rw [hY]; exact world_info)) ?_
      simp only [Act.put]
      refine wpList_storeG (by rfl) (by rfl) (by rfl) (by rfl) (store_whole BR5 (by rw [hY]; exact world_info) (by rw [hZs, hY]) hY1) ?_
      simp only [Act.put]
      have b9 := below_setRowP hb10 (Nat.le_succ W.heap.size) Y
      have B9 := BR5.row Y
      go_wp2_with fail
      exact line_leaves rfl rfl rfl hY B9 (hyes2.out _ b9) rfl
theorem run_none {P : Program} {ts e : TypeId} {i0 : TypeInfo} (ht : P.underlying ts = some (.slice e)) (hi : P.info? e = some i0) (w : World) :
    (Instr.buildSlice ts 0 #[]).run P w = .ok (.slice (some ⟨w.heap.size, 0, none⟩) 0 0) (w.alloc (.cells #[] e)) := by
  simp [Instr.buildSlice, run_underlying ht, sizeOf, typeInfo, hi, newRow, go_sem, Instr.fill]
theorem own_none {w : World} {e : TypeId} {sz base : Nat} (h : base ≤ w.heap.size) : World.ownsRow (w.alloc (.cells #[] e)) base e sz (.slice (some ⟨w.heap.size, 0, none⟩) 0 0) 0 [] :=
  ⟨by simp, .inr ⟨w.heap.size, 0, #[], rfl, h, Blk.new w e #[] _ rfl, Nat.le_refl _, by omega, by simp, by simp⟩⟩
theorem put3 {a : Act} {d0 d1 d2 : Nat} {x0 x1 x2 : Value} (h' : d1 ≠ d2) (h2 : d0 ≠ d2) : ((a.put (some d0) x0).put (some d2) x2).put (some d1) x1 = ((a.put (some d0) x0).put (some d1) x1).put (some d2) x2 ∧ ((a.put (some d2) x2).put (some d0) x0).put (some d1) x1 = ((a.put (some d0) x0).put (some d1) x1).put (some d2) x2 := by
  have e : ∀ (b : Act) {i j : Nat} {u v : Value}, i ≠ j → (b.put (some i) u).put (some j) v = (b.put (some j) v).put (some i) u := fun b i j u v h => by
    simp only [Act.put]
    rw [Array.setIfInBounds_comm _ _ h]
  exact ⟨e _ (Ne.symm h'), by rw [e a (Ne.symm h2), e _ (Ne.symm h')]⟩
theorem run_append_zero {P : Program} {w : World} (base : Nat) (t ty e : TypeId) (i : TypeInfo) (size c : Nat) (ht : P.underlying t = some (.slice e)) (hi : P.info? e = some i) (v : Value) (n : Nat) (xs : List Value) (hown : w.ownsRow base e size v n xs) :
    (Builtin.append_ #[t, t] ty #[v, .slice none 0 c]).run P w = .ok v w := by
  rcases hown.2 with ⟨rfl, rfl⟩ | ⟨g, cap, cur, rfl, _, _, hnc, _⟩
  · simp [Builtin.append_, run_underlying ht, sizeOf, typeInfo, hi, Builtin.lenOf, Builtin.firstCells]
  · simp [Builtin.append_, run_underlying ht, sizeOf, typeInfo, hi, Builtin.lenOf, Builtin.firstCells, hnc, storeCells]
theorem step_appendA {P : Program} {ops : Array Oper} {o : Oper} {a : Act} {w : World} {K : Act → World → Prop} {Q : Exit → Act → World → Prop} {E : Prop} (s x : Operand) (t : TypeId)
    (base : Nat) (e : TypeId) (z : Value) (size bytes : Nat) (v : Value) (n : Nat) (xs : List Value) (A : Option Addr) (m c B : Nat) (news : List Value) (hgd : o.guard = none)
    (ho : o.op = .call { callee := .builtin .append, args := #[s, x], argTypes := #[t, t] })
    (ht : P.underlying t = some (.slice e)) (hinfo : (P.info? e).map (fun i => (i.zero, i.size, i.bytes)) = some (some z, size, bytes)) (hzs : z.cells.size = size) (hsz : 0 < size)
    (hs : a.eval s = v) (hown : w.ownsRow base e size v n xs) (hx : a.eval x = .slice A m c) (hr : Rd w B size A m news) (h1 : ∀ u ∈ news, u.oneCell' = true)
    (h63 : n + m ≤ maxLen) (hbytes : (n + m) * bytes ≤ 140737488355328) (hbase : base ≤ w.heap.size)
    (h : ∀ v' w', w'.ownsRow base e size v' (n + m) (xs ++ news) → Grew w w' v v' → K (a.put o.dst v') w') :
    if Region.wanted o (yielded ops a.tmps) = true then Oper.wp P o a w K Q else E := by
  cases A with
  | some ad => exact step_appendG s x t base e z size bytes v n xs (some ad) m c B news hgd ho ht hinfo hzs hsz hs hown hx hr (fun h => by cases h) h1 h63 hbytes hbase h
  | none =>
    have hm : m = 0 := by
      rcases Nat.eq_zero_or_pos m with h0 | h0
      · exact h0
      · obtain ⟨_, _, he, _⟩ := hr.2 h0
        cases he
    subst hm
    have hn0 : news = [] := List.eq_nil_of_length_eq_zero (by rw [hr.1]; simp)
    subst hn0
    obtain ⟨i0, hi, hz0, hz1, hz2⟩ := info_parts hinfo
    rw [if_pos (by simp [Region.wanted, hgd])]
    have hrun := run_append_zero (P := P) (w := w) base t o.type e i0 size c ht hi v n xs hown
    unfold Oper.wp execOp
    simp only [ho, resolve, invoke, builtin, Sem.run_bind, Sem.run_pure, Result.andThen_ok, List.map_toArray, List.map_cons, List.map_nil, hs, hx, hrun]
    exact h v w (by simpa using hown) (Grew.refl _ _)
theorem wanted_none {o : Oper} {y : Nat → Option Bool} (h : o.guard = none) : Region.wanted o y = true := by simp [Region.wanted, h]
theorem anyU_fresh {P : Program} {lo : List Oper} {Q : Exit → Act → World → Prop} {S : World → Prop} {listed : Array Bool} {a : Act} {w : World} (i0 i1 i2 i3 : Nat) (s : List (Nat × Nat)) (ts e : TypeId) (z : Value) (size bytes : Nat) (A : Option Addr) (m c B : Nat) (news X : List Value) (el : Value)
    {o0 o1 o2 o3 : Oper} {d0 d1 d2 dx de : Nat} {lr : List Oper}
    (ht : P.underlying ts = some (.slice e)) (hinfo : (P.info? e).map (fun i => (i.zero, i.size, i.bytes)) = some (some z, size, bytes)) (hzs : z.cells.size = size) (hsz : 0 < size)
    (hr : Rd w B size A m news) (hB : B ≤ w.heap.size) (hX : X.length = size)
    (r2 : ∀ w, (Instr.buildSlice ts 1 #[(0, el)]).run P w = .ok (.slice (some ⟨w.heap.size, 0, none⟩) 1 1) (w.alloc (.cells X.toArray e)))
    (hn1 : ∀ u ∈ news, u.oneCell' = true) (hX1 : ∀ u ∈ X, u.oneCell' = true) (h63 : m + 1 ≤ maxLen) (hbytes : (m + 1) * bytes ≤ 140737488355328)
    (KS : ∀ w', Below w.heap.size w w' → S w')
    (h : ∀ x0 x1 x2 v' w', w'.ownsRow w.heap.size e size v' (m + 1) (news ++ X) → Below w.heap.size w w' → wpList P lo.toArray (NoPanic Q) lr ((((a.put (some d0) x0).put (some d1) x1).put (some d2) x2).put o3.dst v') w')
    (h0 : lo.toArray[i0]? = some o0 := by rfl) (h1 : lo.toArray[i1]? = some o1 := by rfl) (h2 : lo.toArray[i2]? = some o2 := by rfl) (h3 : (pickS s lo).map (·.2) = o3 :: lr := by rfl)
    (p0 : o0.op = .buildSlice ts 0 #[] ∧ o0.guard = none ∧ o0.dst = some d0 := by exact ⟨rfl, rfl, rfl⟩)
    (p1 : o1.op = .call { callee := .builtin .append, args := #[.tmp d0, .tmp dx], argTypes := #[ts, ts] } ∧ o1.guard = none ∧ o1.dst = some d1 := by exact ⟨rfl, rfl, rfl⟩)
    (p2 : o2.op = .buildSlice ts 1 #[(0, .tmp de)] ∧ o2.guard = none ∧ o2.dst = some d2 := by exact ⟨rfl, rfl, rfl⟩)
    (p3 : o3.op = .call { callee := .builtin .append, args := #[.tmp d1, .tmp d2], argTypes := #[ts, ts] } ∧ o3.guard = none := by exact ⟨rfl, rfl⟩)
    (hx : a.eval (.tmp dx) = .slice A m c := by rfl) (he : a.eval (.tmp de) = el := by rfl)
    (hd : (decide (d0 < a.tmps.size) && (decide (d1 < a.tmps.size) && (decide (d2 < a.tmps.size) && (decide (d0 ≠ d1 ∧ d1 ≠ d2 ∧ d0 ≠ d2 ∧ d0 ≠ dx ∧ d0 ≠ de ∧ d1 ≠ de ∧ d2 ≠ dx))))) = true := by rfl)
    (hO : (Region.noSelect lo.toArray && (decide (Region.ready .any lo.toArray listed = [i0, i2]) && (decide (Region.ready .any lo.toArray (listed.setIfInBounds i0 true) = [i1, i2]) && (decide (Region.ready .any lo.toArray ((listed.setIfInBounds i0 true).setIfInBounds i1 true) = [i2]) && (decide (Region.ready .any lo.toArray ((listed.setIfInBounds i0 true).setIfInBounds i2 true) = [i1]) && (decide (Region.ready .any lo.toArray (listed.setIfInBounds i2 true) = [i0]) && (decide (Region.ready .any lo.toArray ((listed.setIfInBounds i2 true).setIfInBounds i0 true) = [i1]) &&
      ((s.all (fun x => decide (3 ≤ x.2)) && schedOk .any lo.toArray i3 s (((listed.setIfInBounds i0 true).setIfInBounds i1 true).setIfInBounds i2 true)) && (schedOk .any lo.toArray i3 s (((listed.setIfInBounds i0 true).setIfInBounds i2 true).setIfInBounds i1 true) && schedOk .any lo.toArray i3 s (((listed.setIfInBounds i2 true).setIfInBounds i0 true).setIfInBounds i1 true)))))))))) = true := by kernel_rfl) :
    wpAnyU P .any lo.toArray (NoPanic Q) S i3 (s.length + 3) listed a w := by
  simp only [Bool.and_eq_true, decide_eq_true_eq] at hd hO
  obtain ⟨s0, s1, s2, n01, n12, n02, n0x, n0e, n1e, n2x⟩ := hd
  obtain ⟨-, c0, c1, c2, c3, c4, c5, ⟨call, k1⟩, k2, k3⟩ := hO
  obtain ⟨iE, hiE, hz0, hz1, hz2⟩ := info_parts hinfo
  obtain ⟨p0, g0, t0⟩ := p0
  obtain ⟨p1, g1, t1⟩ := p1
  obtain ⟨p2, g2, t2⟩ := p2
  obtain ⟨p3, g3⟩ := p3
  have ends : ∀ (L : Array Bool) (x0 x1 x2 : Value) (v1 : Value) (w3 : World) (be : Nat), x1 = v1 → w3.ownsRow w.heap.size e size v1 m news → Below w.heap.size w w3 → x2 = .slice (some ⟨be, 0, none⟩) 1 1 → Blk w3 be e X.toArray → (s.all (fun x => decide (3 ≤ x.2)) && schedOk .any lo.toArray i3 s L) = true →
      wpAnyU P .any lo.toArray (NoPanic Q) S i3 s.length L (((a.put (some d0) x0).put (some d1) x1).put (some d2) x2) w3 := by
    intro L x0 x1 x2 v1 w3 be hx1 hown hb hx2 hbe hk
    subst hx1
    refine anyU_list s ?_ hk
    rw [h3]
    refine wpList_appendG (.tmp d1) (.tmp d2) ts w.heap.size e z size bytes x1 m news (some ⟨be, 0, none⟩) 1 1 w3.heap.size X g3 p3 ht hinfo hzs hsz ?_ hown ?_ ⟨by rw [hX, Nat.one_mul], fun _ => ⟨be, 0, rfl, hbe.lt, fun j u hu => by rw [Nat.zero_add, hbe.cell, List.getElem?_toArray]; exact hu⟩⟩ (fun h => by cases h) hX1 h63 hbytes hb.size ?_
    · rw [Act.eval_put_ne _ _ _ _ n12.symm]
      exact Act.eval_put_same _ _ _ (by rw [Act.size_put]; exact s1)
    · rw [Act.eval_put_same _ _ _ (by rw [Act.size_put, Act.size_put]; exact s2)]
      exact hx2
    · intro v' w' hown' hg
      exact h x0 x1 x2 v' w' hown' (hb.trans (hg.below hown hb.size))
  have hw0 := bAl (bRefl w) (.cells #[] e)
  have hev0 : ∀ (b : Act) (x : Value), b.tmps.size = a.tmps.size → (b.put (some d0) x).eval (.tmp d0) = x := fun b x hb => Act.eval_put_same _ _ _ (by rw [hb]; exact s0)
  have step2 : ∀ (b : Act) (v : World) (K' : Act → World → Prop), b.eval (.tmp de) = el → K' (b.put (some d2) (.slice (some ⟨v.heap.size, 0, none⟩) 1 1)) (v.alloc (.cells X.toArray e)) → if Region.wanted o2 (yielded lo.toArray b.tmps) = true then Oper.wp P o2 b v K' (NoPanic Q) else K' (b.put o2.dst undef) v := fun b v K' hb hk => by
    refine step_one (vals := #[(0, el)]) (wanted_none g2) p2 (by show [(0, b.eval (.tmp de))] = _; rw [hb]) (r2 v) ?_
    rw [t2]
    exact hk
  have step1 : ∀ (b : Act) (v : World) (g : Nat) (K' : Act → World → Prop), b.eval (.tmp d0) = .slice (some ⟨g, 0, none⟩) 0 0 → b.eval (.tmp dx) = .slice A m c → v.ownsRow w.heap.size e size (.slice (some ⟨g, 0, none⟩) 0 0) 0 [] → Below w.heap.size w v → (∀ v1 w', w'.ownsRow w.heap.size e size v1 m news → Grew v w' (.slice (some ⟨g, 0, none⟩) 0 0) v1 → K' (b.put (some d1) v1) w') → if Region.wanted o1 (yielded lo.toArray b.tmps) = true then Oper.wp P o1 b v K' (NoPanic Q) else K' (b.put o1.dst undef) v := fun b v g K' hb0 hbx hown hbl hk => by
    refine step_appendA (.tmp d0) (.tmp dx) ts w.heap.size e z size bytes _ 0 [] A m c B news g1 p1 ht hinfo hzs hsz hb0 hown hbx (hr.below (hbl.mono hB)) hn1 (by omega) (by rw [Nat.zero_add]; exact Nat.le_trans (Nat.mul_le_mul_right _ (Nat.le_succ m)) hbytes) hbl.size (fun v1 w' hown1 hg1 => ?_)
    rw [t1]
    rw [Nat.zero_add, List.nil_append] at hown1
    exact hk v1 w' hown1 hg1
  have step0 : ∀ (b : Act) (v : World) (K' : Act → World → Prop), K' (b.put (some d0) (.slice (some ⟨v.heap.size, 0, none⟩) 0 0)) (v.alloc (.cells #[] e)) → if Region.wanted o0 (yielded lo.toArray b.tmps) = true then Oper.wp P o0 b v K' (NoPanic Q) else K' (b.put o0.dst undef) v := fun b v K' hk => by
    refine step_one (vals := #[]) (wanted_none g0) p0 rfl (run_none ht hiE v) ?_
    rw [t0]
    exact hk
  refine anyU_two (i := i0) (j := i2) (g := s.length + 2) ⟨o0, h0, fun K' hK => step0 a w K' (hK.out _ _ (KS _ hw0) (fun _ => ?_))⟩ ⟨o2, h2, fun K' hK => step2 a w K' he (hK.out _ _ (KS _ (bAl (bRefl w) _)) (fun _ => ?_))⟩ c0
  · have own0 := own_none (w := w) (e := e) (sz := size) (base := w.heap.size) (Nat.le_refl _)
    refine anyU_two (i := i1) (j := i2) (g := s.length + 1) ⟨o1, h1, fun K' hK => step1 _ _ _ K' (hev0 a _ rfl) (by rw [Act.eval_put_ne _ _ _ _ n0x]; exact hx) own0 hw0 (fun v1 w' hown1 hg1 => hK.out _ _ (KS _ (hw0.trans (hg1.below own0 hw0.size))) (fun _ => ?_))⟩ ⟨o2, h2, fun K' hK => step2 _ _ K' (by rw [Act.eval_put_ne _ _ _ _ n0e]; exact he) (hK.out _ _ (KS _ (bAl hw0 _)) (fun _ => ?_))⟩ c1
    · have b1 := hw0.trans (hg1.below own0 hw0.size)
      refine anyU_one (i := i2) (g := s.length) ⟨o2, h2, fun K' hK => step2 _ _ K' (by rw [Act.eval_put_ne _ _ _ _ n1e, Act.eval_put_ne _ _ _ _ n0e]; exact he) (hK.out _ _ (KS _ (bAl b1 _)) (fun _ => ?_))⟩ c2
      exact ends _ _ _ _ v1 _ w'.heap.size rfl (hown1.alloc _) (bAl b1 _) rfl (Blk.new w' e X.toArray _ rfl) (by rw [Bool.and_eq_true]; exact ⟨call, k1⟩)
    · have own1 := own0.alloc (.cells X.toArray e)
      have b1 := bAl hw0 (.cells X.toArray e)
      have bx := Blk.new (w.alloc (.cells #[] e)) e X.toArray _ rfl
      refine anyU_one (i := i1) (g := s.length) ⟨o1, h1, fun K' hK => step1 _ _ _ K' (by rw [Act.eval_put_ne _ _ _ _ n02.symm]; exact hev0 a _ rfl) (by rw [Act.eval_put_ne _ _ _ _ n2x, Act.eval_put_ne _ _ _ _ n0x]; exact hx) own1 b1 (fun v1 w' hown1 hg1 => hK.out _ _ (KS _ (b1.trans (hg1.below own1 b1.size))) (fun _ => ?_))⟩ c3
      rw [(put3 n12 n02).1]
      exact ends _ _ _ _ v1 _ _ rfl hown1 (b1.trans (hg1.below own1 b1.size)) rfl ((hg1.other bx.lt (by simp [Value.ownBlock])).trans bx) (by rw [Bool.and_eq_true]; exact ⟨call, k2⟩)
  · have b0 := bAl (bRefl w) (.cells X.toArray e)
    have b1 := bAl b0 (.cells #[] e)
    have own1 := own_none (w := w.alloc (.cells X.toArray e)) (e := e) (sz := size) (base := w.heap.size) b0.size
    have bx := (Blk.new w e X.toArray _ rfl).alloc (.cells #[] e)
    refine anyU_one (i := i0) (g := s.length + 1) ⟨o0, h0, fun K' hK => step0 _ _ K' (hK.out _ _ (KS _ b1) (fun _ => ?_))⟩ c4
    refine anyU_one (i := i1) (g := s.length) ⟨o1, h1, fun K' hK => step1 _ _ _ K' (hev0 _ _ (Act.size_put _ _ _)) (by rw [Act.eval_put_ne _ _ _ _ n0x, Act.eval_put_ne _ _ _ _ n2x]; exact hx) own1 b1 (fun v1 w' hown1 hg1 => hK.out _ _ (KS _ (b1.trans (hg1.below own1 b1.size))) (fun _ => ?_))⟩ c5
    rw [(put3 n12 n02).2]
    exact ends _ _ _ _ v1 _ _ rfl hown1 (b1.trans (hg1.below own1 b1.size)) rfl ((hg1.other bx.lt (by simp [Value.ownBlock])).trans bx) (by rw [Bool.and_eq_true]; exact ⟨call, k3⟩)
end Go.Proofs.YtmbopkcmbiommaaGreatDoor
