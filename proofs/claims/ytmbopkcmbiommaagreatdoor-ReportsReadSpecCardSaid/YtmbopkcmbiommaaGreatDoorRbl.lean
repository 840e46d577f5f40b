/- The reference's Same: worlds that are the same; walked. -/
import Derived.Test.YtmbopkcmbiommaaGreatDoorRah
import Derived.Test.YtmbopkcmbiommaaGreatDoorRaj
import Derived.Test.YtmbopkcmbiommaaGreatDoorRaq
set_option maxRecDepth 1000000
set_option maxHeartbeats 16000000
namespace Go.Proofs.YtmbopkcmbiommaaGreatDoor
open Go Go.RowKit
theorem el_load {α : Type} {f : α → List Value} {w : World} {B sz n k : Nat} {A : Option Addr} {l : List α} {x : α} {ty : TypeId} {d : TypeDesc} (hsz : ∀ y ∈ l, (f y).length = sz) (h : Rd w B sz A n (l.flatMap f)) (hn : k < n) (hx : l[k]? = some x) (hu : Tryz.prog.underlying ty = some d) (hd : d.isRow = true) (hi : (Tryz.prog.info? ty).map (·.size) = some sz) (hB : B ≤ w.heap.size) :
    ∃ b off, A = some ⟨b, off, none⟩ ∧ b < B ∧ ∀ w', Below w.heap.size w w' → (Instr.loadAt ty (.pointer (some ⟨b, off + k * sz, none⟩))).run Tryz.prog w' = .ok (.agg (f x).toArray) w' := by
  obtain ⟨b, off, e, hb, hc⟩ := Cl_at hsz h hn hx
  have hl := hsz x (List.mem_of_getElem? hx)
  refine ⟨b, off, e, hb, fun w' h' => run_loadAt_mid w' b _ ty (f x) d (fun j v hj => ?_) hu hd (by rw [hl]; exact hi)⟩
  rw [h'.cell (p := ⟨b, off + k * sz + j, none⟩) (by show b < _; omega), hc j (by rw [← hl]; exact (List.getElem?_eq_some_iff.1 hj).1)]
  exact hj
theorem ne_rl (x : Rl) (w : World) : (binOp .neq 59 (.agg x.cl.toArray) (.agg x.cl.toArray)).run Tryz.prog w = .ok (.bool false) w := by
  have hS : Tryz.prog.underlying 59 = some (.struct (Tryz.prog.fieldsOf 59)) := by kernel_rfl
  have hp : Tryz.prog.stoodInHeld 59 = false := by kernel_rfl
  have h : (Op.equalIn 10000 59 (.agg x.cl.toArray) (.agg x.cl.toArray)).run Tryz.prog w = .ok true w := by
    have u3 := Tryz.underlying3
    have a3 := Tryz.isAgg3
    have z3 := Tryz.sizeOf3
    unfold Rl.cl
    rw [show (10000 : Nat) = 9998 + 1 + 1 from rfl, run_equalIn_agg w (9998 + 1) 59 _ _ hS hp]
    simp only [Program.fieldsOf, Tryz.underlying59]
    go_simp
  rw [run_neq_struct, h]; rfl
theorem ne_gp (x : Gp) (w : World) : (binOp .neq 61 (.agg x.cl.toArray) (.agg x.cl.toArray)).run Tryz.prog w = .ok (.bool false) w := by
  have hS : Tryz.prog.underlying 61 = some (.struct (Tryz.prog.fieldsOf 61)) := by kernel_rfl
  have hp : Tryz.prog.stoodInHeld 61 = false := by kernel_rfl
  have h : (Op.equalIn 10000 61 (.agg x.cl.toArray) (.agg x.cl.toArray)).run Tryz.prog w = .ok true w := by
    have u3 := Tryz.underlying3
    have a3 := Tryz.isAgg3
    have z3 := Tryz.sizeOf3
    unfold Gp.cl
    rw [show (10000 : Nat) = 9998 + 1 + 1 from rfl, run_equalIn_agg w (9998 + 1) 61 _ _ hS hp]
    simp only [Program.fieldsOf, Tryz.underlying61]
    go_simp
  rw [run_neq_struct, h]; rfl
theorem ne_tie (x : Tie) (w : World) : (binOp .neq 63 (.agg x.cl.toArray) (.agg x.cl.toArray)).run Tryz.prog w = .ok (.bool false) w := by
  have hS : Tryz.prog.underlying 63 = some (.struct (Tryz.prog.fieldsOf 63)) := by kernel_rfl
  have hp : Tryz.prog.stoodInHeld 63 = false := by kernel_rfl
  have h : (Op.equalIn 10000 63 (.agg x.cl.toArray) (.agg x.cl.toArray)).run Tryz.prog w = .ok true w := by
    have u3 := Tryz.underlying3
    have a3 := Tryz.isAgg3
    have z3 := Tryz.sizeOf3
    unfold Tie.cl
    rw [show (10000 : Nat) = 9998 + 1 + 1 from rfl, run_equalIn_agg w (9998 + 1) 63 _ _ hS hp]
    simp only [Program.fieldsOf, Tryz.underlying63]
    go_simp
  rw [run_neq_struct, h]; rfl
theorem ne_ent (x : Ent) (w : World) : (binOp .neq 67 (.agg x.cl.toArray) (.agg x.cl.toArray)).run Tryz.prog w = .ok (.bool false) w := by
  have hS : Tryz.prog.underlying 67 = some (.struct (Tryz.prog.fieldsOf 67)) := by kernel_rfl
  have hp : Tryz.prog.stoodInHeld 67 = false := by kernel_rfl
  have h : (Op.equalIn 10000 67 (.agg x.cl.toArray) (.agg x.cl.toArray)).run Tryz.prog w = .ok true w := by
    have u3 := Tryz.underlying3
    have a3 := Tryz.isAgg3
    have z3 := Tryz.sizeOf3
    unfold Ent.cl
    rw [show (10000 : Nat) = 9998 + 1 + 1 from rfl, run_equalIn_agg w (9998 + 1) 67 _ _ hS hp]
    simp only [Program.fieldsOf, Tryz.underlying67]
    go_simp
  rw [run_neq_struct, h]; rfl
theorem ne_slp (x : Slp) (w : World) : (binOp .neq 71 (.agg x.cl.toArray) (.agg x.cl.toArray)).run Tryz.prog w = .ok (.bool false) w := by
  have hS : Tryz.prog.underlying 71 = some (.struct (Tryz.prog.fieldsOf 71)) := by kernel_rfl
  have hp : Tryz.prog.stoodInHeld 71 = false := by kernel_rfl
  have hS1 : Tryz.prog.underlying 69 = some (.struct (Tryz.prog.fieldsOf 69)) := by kernel_rfl
  have hp1 : Tryz.prog.stoodInHeld 69 = false := by kernel_rfl
  have u3 := Tryz.underlying3
  have a3 := Tryz.isAgg3
  have z3 := Tryz.sizeOf3
  have a4 := Tryz.isAgg69
  have z4 := Tryz.sizeOf69
  have h1 : (Op.equalIn 9999 69 (.agg #[.int .i64 x.leg, .int .i64 x.kind, .int .i64 x.at_]) (.agg #[.int .i64 x.leg, .int .i64 x.kind, .int .i64 x.at_])).run Tryz.prog w = .ok true w := by
    rw [show (9999 : Nat) = 9997 + 1 + 1 from rfl, run_equalIn_agg w (9997 + 1) 69 _ _ hS1 hp1]
    simp only [Program.fieldsOf, Tryz.underlying69]
    go_simp
  have h : (Op.equalIn 10000 71 (.agg x.cl.toArray) (.agg x.cl.toArray)).run Tryz.prog w = .ok true w := by
    unfold Slp.cl
    rw [show (10000 : Nat) = 9998 + 1 + 1 from rfl, run_equalIn_agg w (9998 + 1) 71 _ _ hS hp]
    simp only [Program.fieldsOf, Tryz.underlying71]
    clear hS hp hS1 hp1
    trace_state
    go_simp
  rw [run_neq_struct, h]; rfl
theorem same_ints (A B : Option Addr) (c d : Nat) (l : List Int) (W : World) (hA : Rd W W.heap.size 1 A l.length (ints l)) (hB : Rd W W.heap.size 1 B l.length (ints l)) (hn : l.length ≤ 1000000) :
    Calls Tryz.prog 34 #[.slice A l.length c, .slice B l.length d] W (Ret (.bool true) W) := by
  go_enter Tryz.func34, Tryz.ntmps34
  go_wp2_with fail
  go_loopw [5] (fun i wr => ∃ k : Nat, k ≤ l.length ∧ i = .int .i64 k ∧ Below W.heap.size W wr) (fun i _ => l.length - (intOf i).toNat)
  case atStart => exact ⟨0, Nat.zero_le _, rfl, bRefl W⟩
  case round =>
    obtain ⟨k, hkn, rfl, hb⟩ := hrel
    by_cases hlt : k < l.length
    · obtain ⟨x, hx⟩ : ∃ x, Hid (l[k]? = some x) := ⟨_, Lib.hid (List.getElem?_eq_getElem hlt)⟩
      obtain ⟨b1, o1, rfl, l1, h1⟩ := (hA.below hb).2 (by omega)
      obtain ⟨b2, o2, rfl, l2, h2⟩ := (hB.below hb).2 (by omega)
      have c1 := h1 k _ (ints_at hx.out)
      have c2 := h2 k _ (ints_at hx.out)
      have hbz := hb.size
      have i0 : (0 : Int) ≤ (k : Int) := by omega
      have i1 : (k : Int) < (l.length : Int) := by omega
      have KS : Hid (∀ w', Below wr.heap.size wr w' → w'.cell? ⟨b1, o1 + k, none⟩ = some (.int .i64 x) ∧ w'.cell? ⟨b2, o2 + k, none⟩ = some (.int .i64 x)) := Lib.hid (fun w' h => ⟨(h.cell (p := ⟨b1, o1 + k, none⟩) (by show b1 < _; omega)).trans c1, (h.cell (p := ⟨b2, o2 + k, none⟩) (by show b2 < _; omega)).trans c2⟩)
      clear h1 h2 c1 c2
      go_upto_region 6 with fail
      refine wp_region_schB (f := 8) KS [(0, 1), (1, 1), (2, 1), (3, 2), (4, 1), (5, 1), (6, 1), (7, 2), (8, 3)] ?_
      simp only [pickS, List.getElem?_cons_zero, List.getElem?_cons_succ]
      refine wpSched_t ?_
      refine wpSched_t ?_
      refine wpSched_t ?_
      refine wpSched_r ?_
      refine wpSched_t ?_
      refine wpSched_t ?_
      refine wpSched_t ?_
      refine wpSched_r ?_
      refine wpSched_last ?_
      first | simp only [List.map_nil] | simp only [List.map_cons, List.map_nil]
      clear KS
      go_wp2_with fail
      refine NoPanic.normal ?_
      go_wp2_with fail
      exact ⟨⟨k + 1, by omega, by go_num, bDr hb⟩, by simp [intOf]; omega⟩
    · go_wp2_with fail
      go_ret
      exact ⟨rfl, hb⟩
theorem same_ints2 (A B : Option Addr) (c d : Nat) (l : List Int) (W : World) (hA : Rd W W.heap.size 1 A l.length (ints l)) (hB : Rd W W.heap.size 1 B l.length (ints l)) (hn : l.length ≤ 1000000) :
    Calls Tryz.prog 104 #[.slice A l.length c, .slice B l.length d] W (Ret (.bool true) W) := by
  go_enter Tryz.func104, Tryz.ntmps104
  go_wp2_with fail
  go_loopw [5] (fun i wr => ∃ k : Nat, k ≤ l.length ∧ i = .int .i64 k ∧ Below W.heap.size W wr) (fun i _ => l.length - (intOf i).toNat)
  case atStart => exact ⟨0, Nat.zero_le _, rfl, bRefl W⟩
  case round =>
    obtain ⟨k, hkn, rfl, hb⟩ := hrel
    by_cases hlt : k < l.length
    · obtain ⟨x, hx⟩ : ∃ x, Hid (l[k]? = some x) := ⟨_, Lib.hid (List.getElem?_eq_getElem hlt)⟩
      obtain ⟨b1, o1, rfl, l1, h1⟩ := (hA.below hb).2 (by omega)
      obtain ⟨b2, o2, rfl, l2, h2⟩ := (hB.below hb).2 (by omega)
      have c1 := h1 k _ (ints_at hx.out)
      have c2 := h2 k _ (ints_at hx.out)
      have hbz := hb.size
      have i0 : (0 : Int) ≤ (k : Int) := by omega
      have i1 : (k : Int) < (l.length : Int) := by omega
      have KS : Hid (∀ w', Below wr.heap.size wr w' → w'.cell? ⟨b1, o1 + k, none⟩ = some (.int .i64 x) ∧ w'.cell? ⟨b2, o2 + k, none⟩ = some (.int .i64 x)) := Lib.hid (fun w' h => ⟨(h.cell (p := ⟨b1, o1 + k, none⟩) (by show b1 < _; omega)).trans c1, (h.cell (p := ⟨b2, o2 + k, none⟩) (by show b2 < _; omega)).trans c2⟩)
      clear h1 h2 c1 c2
      go_upto_region 6 with fail
      refine wp_region_schB (f := 8) KS [(0, 1), (1, 1), (2, 1), (3, 2), (4, 1), (5, 1), (6, 1), (7, 2), (8, 3)] ?_
      simp only [pickS, List.getElem?_cons_zero, List.getElem?_cons_succ]
      refine wpSched_t ?_
      refine wpSched_t ?_
      refine wpSched_t ?_
      refine wpSched_r ?_
      refine wpSched_t ?_
      refine wpSched_t ?_
      refine wpSched_t ?_
      refine wpSched_r ?_
      refine wpSched_last ?_
      first | simp only [List.map_nil] | simp only [List.map_cons, List.map_nil]
      clear KS
      go_wp2_with fail
      refine NoPanic.normal ?_
      go_wp2_with fail
      exact ⟨⟨k + 1, by omega, by go_num, bDr hb⟩, by simp [intOf]; omega⟩
    · go_wp2_with fail
      go_ret
      exact ⟨rfl, hb⟩
theorem same_ents (A B : Option Addr) (c d : Nat) (l : List Ent) (W : World) (hA : Rd W W.heap.size 8 A l.length (l.flatMap Ent.cl)) (hB : Rd W W.heap.size 8 B l.length (l.flatMap Ent.cl)) (hn : l.length ≤ 1000000) :
    Calls Tryz.prog 36 #[.slice A l.length c, .slice B l.length d] W (Ret (.bool true) W) := by
  go_enter Tryz.func36, Tryz.ntmps36
  go_wp2_with fail
  go_loopw [5] (fun i wr => ∃ k : Nat, k ≤ l.length ∧ i = .int .i64 k ∧ Below W.heap.size W wr) (fun i _ => l.length - (intOf i).toNat)
  case atStart => exact ⟨0, Nat.zero_le _, rfl, bRefl W⟩
  case round =>
    obtain ⟨k, hkn, rfl, hb⟩ := hrel
    by_cases hlt : k < l.length
    · obtain ⟨x, hx⟩ : ∃ x, Hid (l[k]? = some x) := ⟨_, Lib.hid (List.getElem?_eq_getElem hlt)⟩
      have hbz := hb.size
      obtain ⟨b1, o1, rfl, l1, h1⟩ := el_load (f := Ent.cl) (fun _ _ => rfl) (hA.below hb) hlt hx.out Tryz.underlying67 rfl (by kernel_rfl) hbz
      obtain ⟨b2, o2, rfl, l2, h2⟩ := el_load (f := Ent.cl) (fun _ _ => rfl) (hB.below hb) hlt hx.out Tryz.underlying67 rfl (by kernel_rfl) hbz
      have hq := ne_ent x
      generalize x.cl.toArray = X at *
      have i0 : (0 : Int) ≤ (k : Int) := by omega
      have i1 : (k : Int) < (l.length : Int) := by omega
      have KS : Hid (∀ w', Below wr.heap.size wr w' → (Instr.loadAt 67 (.pointer (some ⟨b1, o1 + k * 8, none⟩))).run Tryz.prog w' = .ok (.agg X) w' ∧ (Instr.loadAt 67 (.pointer (some ⟨b2, o2 + k * 8, none⟩))).run Tryz.prog w' = .ok (.agg X) w') := Lib.hid (fun w' h => ⟨h1 w' h, h2 w' h⟩)
      clear h1 h2
      go_upto_region 6 with fail
      refine wp_region_schB (f := 8) KS [(0, 1), (1, 1), (2, 1), (3, 2), (4, 1), (5, 1), (6, 1), (7, 2), (8, 3)] ?_
      simp only [pickS, List.getElem?_cons_zero, List.getElem?_cons_succ]
      refine wpSched_t ?_
      refine wpSched_t ?_
      refine wpSched_t ?_
      refine wpSched_r (v := ?vq1) (hv := ?hq1) ?_; case hq1 => (intro w hSw; (first | refine (exec_load rfl rfl hSw).trans ?_ | refine (exec_load rfl rfl hSw.1).trans ?_ | refine (exec_load rfl rfl hSw.2.1).trans ?_ | refine (exec_load rfl rfl hSw.2.2.1).trans ?_ | refine (exec_load rfl rfl hSw.2).trans ?_ | refine (exec_load rfl rfl hSw.2.2).trans ?_); with_reducible rfl)
      refine wpSched_t ?_
      refine wpSched_t ?_
      refine wpSched_t ?_
      refine wpSched_r (v := ?vq2) (hv := ?hq2) ?_; case hq2 => (intro w hSw; (first | refine (exec_load rfl rfl hSw).trans ?_ | refine (exec_load rfl rfl hSw.1).trans ?_ | refine (exec_load rfl rfl hSw.2.1).trans ?_ | refine (exec_load rfl rfl hSw.2.2.1).trans ?_ | refine (exec_load rfl rfl hSw.2).trans ?_ | refine (exec_load rfl rfl hSw.2.2).trans ?_); with_reducible rfl)
      refine wpSched_last ?_
      first | simp only [List.map_nil] | simp only [List.map_cons, List.map_nil]
      clear KS
      go_wp2_with fail
      refine NoPanic.normal ?_
      go_wp2_with fail
      exact ⟨⟨k + 1, by omega, by go_num, bDr hb⟩, by simp [intOf]; omega⟩
    · go_wp2_with fail
      go_ret
      exact ⟨rfl, hb⟩
theorem same_order (x : Odr) (A B : Option Addr) (c d : Nat) (W : World) (hA : Rd W W.heap.size 1 A x.ag.length (ints x.ag)) (hB : Rd W W.heap.size 1 B x.ag.length (ints x.ag)) (hn : x.ag.length ≤ 1000000) :
    Calls Tryz.prog 61 #[.agg (x.cl (.slice A x.ag.length c)).toArray, .agg (x.cl (.slice B x.ag.length d)).toArray] W (Ret (.bool true) W) := by
  have q : Hid (∀ w', Below W.heap.size W w' → Calls Tryz.prog 104 #[.slice A x.ag.length c, .slice B x.ag.length d] w' (Ret (.bool true) w')) := Lib.hid (fun w' h => same_ints2 A B c d x.ag w' ((hA.below h).more h.size) ((hB.below h).more h.size) hn)
  clear hA hB
  unfold Odr.cl
  have hb := bAl (bAl (bRefl W) (.cells (x.cl (.slice A x.ag.length c)).toArray 65)) (.cells (x.cl (.slice B x.ag.length d)).toArray 65)
  unfold Odr.cl at hb
  go_enter Tryz.func61, Tryz.ntmps61
  go_wp2_with (go_at_call 104; (with_reducible refine (q.out _ hb).mono ?_); rintro e w5 ⟨rfl, b5⟩)
  go_ret
  exact ⟨rfl, bCall hb b5⟩
theorem same_orders (A B : Option Addr) (c d : Nat) (l : List Odr) (va vb : List Value) (W : World) (hA : Rd W W.heap.size 11 A l.length (odrsCl l va)) (hB : Rd W W.heap.size 11 B l.length (odrsCl l vb)) (hla : va.length = l.length) (hlb : vb.length = l.length)
    (ha : ∀ (k : Nat) (y : Odr), l[k]? = some y → ∃ A c, va[k]? = some (Value.slice A y.ag.length c) ∧ Rd W W.heap.size 1 A y.ag.length (ints y.ag)) (hb0 : ∀ (k : Nat) (y : Odr), l[k]? = some y → ∃ A c, vb[k]? = some (Value.slice A y.ag.length c) ∧ Rd W W.heap.size 1 A y.ag.length (ints y.ag)) (hn : l.length ≤ 1000000) (hf : ∀ o ∈ l, o.ag.length ≤ 1000000) :
    Calls Tryz.prog 35 #[.slice A l.length c, .slice B l.length d] W (Ret (.bool true) W) := by
  go_enter Tryz.func35, Tryz.ntmps35
  go_wp2_with fail
  go_loopw [5] (fun i wr => ∃ k : Nat, k ≤ l.length ∧ i = .int .i64 k ∧ Below W.heap.size W wr) (fun i _ => l.length - (intOf i).toNat)
  case atStart => exact ⟨0, Nat.zero_le _, rfl, bRefl W⟩
  case round =>
    obtain ⟨k, hkn, rfl, hb⟩ := hrel
    by_cases hlt : k < l.length
    · obtain ⟨x, hx⟩ : ∃ x, Hid (l[k]? = some x) := ⟨_, Lib.hid (List.getElem?_eq_getElem hlt)⟩
      have hbz := hb.size
      obtain ⟨Aa, ca, ea, ra⟩ := ha k x hx.out
      obtain ⟨Ab, cb, eb, rb⟩ := hb0 k x hx.out
      have za : (l.zip va)[k]? = some (x, Value.slice Aa x.ag.length ca) := by rw [List.getElem?_zip_eq_some]; exact ⟨hx.out, ea⟩
      have zb : (l.zip vb)[k]? = some (x, Value.slice Ab x.ag.length cb) := by rw [List.getElem?_zip_eq_some]; exact ⟨hx.out, eb⟩
      obtain ⟨b1, o1, rfl, l1, h1⟩ := el_load (f := fun p : Odr × Value => p.1.cl p.2) (fun _ _ => rfl) (hA.below hb) hlt za Tryz.underlying65 rfl (by kernel_rfl) hbz
      obtain ⟨b2, o2, rfl, l2, h2⟩ := el_load (f := fun p : Odr × Value => p.1.cl p.2) (fun _ _ => rfl) (hB.below hb) hlt zb Tryz.underlying65 rfl (by kernel_rfl) hbz
      have q : Hid (∀ w', Below wr.heap.size wr w' → Calls Tryz.prog 61 #[.agg (x.cl (.slice Aa x.ag.length ca)).toArray, .agg (x.cl (.slice Ab x.ag.length cb)).toArray] w' (Ret (.bool true) w')) := Lib.hid (fun w' h => same_order x Aa Ab ca cb w' (((ra.below hb).below (h.mono hbz)).more (Nat.le_trans hbz h.size)) (((rb.below hb).below (h.mono hbz)).more (Nat.le_trans hbz h.size)) (hf x (List.mem_of_getElem? hx.out)))
      dsimp only at h1 h2
      generalize (x.cl (.slice Aa x.ag.length ca)).toArray = X at *
      generalize (x.cl (.slice Ab x.ag.length cb)).toArray = Y at *
      have i0 : (0 : Int) ≤ (k : Int) := by omega
      have i1 : (k : Int) < (l.length : Int) := by omega
      have KS : Hid (∀ w', Below wr.heap.size wr w' → (Instr.loadAt 65 (.pointer (some ⟨b1, o1 + k * 11, none⟩))).run Tryz.prog w' = .ok (.agg X) w' ∧ (Instr.loadAt 65 (.pointer (some ⟨b2, o2 + k * 11, none⟩))).run Tryz.prog w' = .ok (.agg Y) w') := Lib.hid (fun w' h => ⟨h1 w' h, h2 w' h⟩)
      clear h1 h2 ea eb ra rb za zb
      go_upto_region 6 with fail
      refine wp_region_schB (f := 9) KS [(0, 1), (1, 1), (2, 1), (3, 2), (4, 1), (5, 1), (6, 1), (7, 2), (8, 0), (9, 3)] ?_
      simp only [pickS, List.getElem?_cons_zero, List.getElem?_cons_succ]
      refine wpSched_t ?_
      refine wpSched_t ?_
      refine wpSched_t ?_
      refine wpSched_r (v := ?vq3) (hv := ?hq3) ?_; case hq3 => (intro w hSw; (first | refine (exec_load rfl rfl hSw).trans ?_ | refine (exec_load rfl rfl hSw.1).trans ?_ | refine (exec_load rfl rfl hSw.2.1).trans ?_ | refine (exec_load rfl rfl hSw.2.2.1).trans ?_ | refine (exec_load rfl rfl hSw.2).trans ?_ | refine (exec_load rfl rfl hSw.2.2).trans ?_); with_reducible rfl)
      refine wpSched_t ?_
      refine wpSched_t ?_
      refine wpSched_t ?_
      refine wpSched_r (v := ?vq4) (hv := ?hq4) ?_; case hq4 => (intro w hSw; (first | refine (exec_load rfl rfl hSw).trans ?_ | refine (exec_load rfl rfl hSw.1).trans ?_ | refine (exec_load rfl rfl hSw.2.1).trans ?_ | refine (exec_load rfl rfl hSw.2.2.1).trans ?_ | refine (exec_load rfl rfl hSw.2).trans ?_ | refine (exec_load rfl rfl hSw.2.2).trans ?_); with_reducible rfl)
      refine wpSched_force (fun K hK => ?_)
      go_simp; (first | (go_at_call 61; (with_reducible refine (q.out _ (bDr (bRefl _))).mono ?_); rintro e w6 ⟨rfl, b6⟩; have B6 : Below wr.heap.size wr w6 := bCall (bDr (bRefl _)) b6) | skip)
      refine shut_go hK KS ?_
      clear hK K
      refine wpSched_last ?_
      first | simp only [List.map_nil] | simp only [List.map_cons, List.map_nil]
      clear KS
      go_wp2_with fail
      refine NoPanic.normal ?_
      go_wp2_with fail
      exact ⟨⟨k + 1, by omega, by go_num, hb.trans (B6.mono hbz)⟩, by simp [intOf]; omega⟩
    · go_wp2_with fail
      go_ret
      exact ⟨rfl, hb⟩
def LinsC (w : World) (B : Nat) (A : Option Addr) (l : List Lin) : Prop :=
  ∃ ls : List LS, ls.length = l.length ∧ Rd w B 6 A l.length (linsCl ls l) ∧ ∀ (k : Nat) (y : Lin), l[k]? = some y → ∃ q, ls[k]? = some q ∧ LinAt w B q y ∧ y.offs.length ≤ q.c0
theorem LinsC.below {w w' : World} {B : Nat} {A : Option Addr} {l : List Lin} (h : LinsC w B A l) (b : Below B w w') : LinsC w' B A l := by
  obtain ⟨ls, l1, l2, l3⟩ := h
  exact ⟨ls, l1, l2.below b, fun k y hy => by obtain ⟨q, e, r, c⟩ := l3 k y hy; exact ⟨q, e, r.below b, c⟩⟩
theorem ra_table (n : Int) (A : Option Addr) (c : Nat) (l : List Lin) (W : World) (hA : LinsC W W.heap.size A l) (hn : l.length ≤ 1000000) (hs : ∀ x ∈ l, x.short) :
    Calls Tryz.prog 44 #[.agg #[.int .i64 n, .slice A l.length c]] W (Ret (.int .i64 (tableE n l)) W) := by
  obtain ⟨v, hv⟩ : ∃ v, Hid (tableE n l = v) := ⟨_, Lib.hid rfl⟩
  rw [hv.out]
  have BT := Blk.new W 24 #[.int .i64 n, .slice A l.length c] _ rfl
  have hb := bAl (bRefl W) (.cells #[.int .i64 n, .slice A l.length c] 24)
  go_enter Tryz.func44, Tryz.ntmps44
  go_upto_region 1 with fail
  generalize W.alloc (.cells #[.int .i64 n, .slice A l.length c] 24) = w1 at *
  have d0 := BT.cell 0
  have d1 := BT.cell 1
  by_cases l1 : 64 < l.length
  · have hv2 : Hid (v = 2) := Lib.hid (by rw [← hv.out]; unfold tableE; rw [if_pos l1])
    have e1 : (64 : Int) < (l.length : Int) := by omega
    clear l1
    go_wp2_with fail
    go_ret
    exact ⟨ret_int hv2.out.symm, hb⟩
  have e1 : ¬ (64 : Int) < (l.length : Int) := by omega
  have hno0 : Hid (¬ btw n 0 24 = true → v = 200) := Lib.hid (fun h => by rw [← hv.out]; unfold tableE; rw [if_neg l1, if_neg h])
  by_cases n0 : n < 0
  · have hv2 := Lib.hid (hno0.out (fun h => by unfold btw at h; simp at h; omega))
    clear l1
    go_wp2_with fail
    go_ret
    exact ⟨ret_int hv2.out.symm, hb⟩
  by_cases n24 : 24 < n
  · have hv2 := Lib.hid (hno0.out (fun h => by unfold btw at h; simp at h; omega))
    clear l1
    go_wp2_with fail
    go_ret
    exact ⟨ret_int hv2.out.symm, hb⟩
  have hbt : btw n 0 24 = true := by unfold btw; simp; omega
  have hno : Hid (∀ (k : Nat) x, l[k]? = some x → x.right n = false → v = 200) := Lib.hid (fun k r h hb => by rw [← hv.out]; exact table_no h hb (by omega) hbt)
  have hyes : Hid ((∀ x ∈ l, x.right n = true) → v = calsE l) := Lib.hid (fun h => by rw [← hv.out]; exact table_yes h (by omega) hbt)
  clear l1 hbt hno0
  go_wp2_with fail
  clear d0 d1 e1
  go_loopw [3] (fun i wr => ∃ k : Nat, k ≤ l.length ∧ i = .int .i64 k ∧ Below W.heap.size W wr ∧ Blk wr W.heap.size 24 #[.int .i64 n, .slice A l.length c] ∧ Hid (∀ x ∈ l.take k, x.right n = true)) (fun i _ => l.length - (intOf i).toNat)
  case atStart => exact ⟨0, Nat.zero_le _, rfl, hb, BT, Lib.hid (by simp)⟩
  case round =>
    clear hb BT
    obtain ⟨k, hkn, rfl, hb, BT, hp⟩ := hrel
    have d0 := BT.cell 0
    have d1 := BT.cell 1
    by_cases hlt : k < l.length
    · obtain ⟨x, hx⟩ : ∃ x, Hid (l[k]? = some x) := ⟨_, Lib.hid (List.getElem?_eq_getElem hlt)⟩
      have hsx := hs x (List.mem_of_getElem? hx.out)
      obtain ⟨ls, l1, l2, l3⟩ := hA.below hb
      obtain ⟨s, es, rs, cs⟩ := l3 k x hx.out
      have za : (ls.zip l)[k]? = some (s, x) := by rw [List.getElem?_zip_eq_some]; exact ⟨es, hx.out⟩
      have hbz := hb.size
      obtain ⟨b1, o1, rfl, l1', L1⟩ := el_load (f := fun p : LS × Lin => p.1.cl p.2) (fun _ _ => rfl) l2 hlt za Tryz.underlying56 rfl (by kernel_rfl) hbz
      dsimp only at L1
      have i0 : (0 : Int) ≤ (k : Int) := by omega
      have i1 : (k : Int) < (l.length : Int) := by omega
      have q : Hid (∀ w', Below wr.heap.size wr w' → Calls Tryz.prog 81 #[.agg (s.cl x).toArray, .int .i64 n] w' (Ret (.bool (x.right n)) w')) := Lib.hid (fun w' h => ra_right s x n w' ((rs.below (h.mono hbz)).more (Nat.le_trans hbz h.size)) cs hsx.1 hsx.2.1)
      have hp1 := Lib.hid (fun h => all_on (p := fun x : Lin => x.right n) hp.out hx.out h)
      have hp0 := Lib.hid (fun h => hno.out k x hx.out h)
      generalize (s.cl x).toArray = X at *
      generalize x.right n = ok at q hp1 hp0
      have KS : Hid (∀ w', Below wr.heap.size wr w' → (Instr.loadAt 56 (.pointer (some ⟨b1, o1 + k * 6, none⟩))).run Tryz.prog w' = .ok (.agg X) w' ∧ w'.cell? ⟨W.heap.size, 0, none⟩ = some (.int .i64 n) ∧ w'.cell? ⟨W.heap.size, 1, none⟩ = some (.slice (some ⟨b1, o1, none⟩) l.length c)) := Lib.hid (fun w' h => ⟨L1 w' h, (BT.below h BT.lt).cell 0, (BT.below h BT.lt).cell 1⟩)
      clear L1 l2 l3 es rs za
      go_upto_region 8 with fail
      refine wp_region_schB (f := 8) KS [(0, 1), (1, 2), (2, 1), (3, 1), (4, 2), (5, 1), (6, 2), (7, 0), (8, 3)] ?_
      simp only [pickS, List.getElem?_cons_zero, List.getElem?_cons_succ]
      refine wpSched_t ?_
      refine wpSched_r ?_
      refine wpSched_t ?_
      refine wpSched_t ?_
      refine wpSched_r (v := ?vq1) (hv := ?hq1) ?_; case hq1 => (intro w hSw; (first | refine (exec_load rfl rfl hSw).trans ?_ | refine (exec_load rfl rfl hSw.1).trans ?_ | refine (exec_load rfl rfl hSw.2.1).trans ?_ | refine (exec_load rfl rfl hSw.2.2.1).trans ?_ | refine (exec_load rfl rfl hSw.2).trans ?_ | refine (exec_load rfl rfl hSw.2.2).trans ?_); with_reducible rfl)
      refine wpSched_t ?_
      refine wpSched_r ?_
      refine wpSched_force (fun K hK => ?_)
      go_simp; (first | (go_at_call 81; (with_reducible refine (q.out _ (bDr (bRefl _))).mono ?_); rintro e w6 ⟨rfl, b6⟩; have B6 : Below wr.heap.size wr w6 := bCall (bDr (bRefl _)) b6) | skip)
      refine shut_go hK KS ?_
      clear hK K
      refine wpSched_last ?_
      first | simp only [List.map_nil] | simp only [List.map_cons, List.map_nil]
      have BT6 := BT.below B6 BT.lt
      have hb6 := hb.trans (B6.mono hbz)
      clear KS d0 d1 q b6
      cases ok
      · have hv2 := Lib.hid (hp0.out rfl)
        clear hp0 hp1
        go_wp2_with fail
        refine NoPanic.normal ?_
        go_wp2_with fail
        go_ret
        exact ⟨ret_int hv2.out.symm, hb6⟩
      · have hp2 := Lib.hid (hp1.out rfl)
        clear hp0 hp1
        go_wp2_with fail
        refine NoPanic.normal ?_
        go_wp2_with fail
        exact ⟨⟨k + 1, by omega, by go_num, hb6, BT6, hp2⟩, by simp [intOf]; omega⟩
    · have hv3 := Lib.hid (hyes.out (by have := hp.out; rwa [List.take_of_length_le (by omega)] at this))
      clear hp hyes hno
      go_wp2_with fail
      clear d0 d1
      go_loopw [4] (fun i wr => ∃ k : Nat, k ≤ l.length ∧ i = .int .i64 k ∧ Below W.heap.size W wr ∧ Blk wr W.heap.size 24 #[.int .i64 n, .slice A l.length c] ∧ Hid (calsE l = calsE (l.drop k))) (fun i _ => l.length - (intOf i).toNat)
      case atStart => exact ⟨0, Nat.zero_le _, rfl, hb, BT, Lib.hid rfl⟩
      case round =>
        clear hb BT
        obtain ⟨k, hkn, rfl, hb, BT, hp⟩ := hrel
        have d1 := BT.cell 1
        by_cases hlt : k < l.length
        · obtain ⟨x, hx⟩ : ∃ x, Hid (l[k]? = some x) := ⟨_, Lib.hid (List.getElem?_eq_getElem hlt)⟩
          have hsx := hs x (List.mem_of_getElem? hx.out)
          have hdrop : Hid (calsE l = if calE x.rules x.off = 0 then calsE (l.drop (k + 1)) else calE x.rules x.off) := Lib.hid (by
            rw [hp.out]
            obtain ⟨hk, e⟩ := List.getElem?_eq_some_iff.1 hx.out
            rw [List.drop_eq_getElem_cons hk, e]
            rfl)
          obtain ⟨ls, l1, l2, l3⟩ := hA.below hb
          obtain ⟨⟨p0, p1, p2, p3, m0, m1, m2, m3⟩, es, rs, cs⟩ := l3 k x hx.out
          have za : (ls.zip l)[k]? = some ((⟨p0, p1, p2, p3, m0, m1, m2, m3⟩ : LS), x) := by rw [List.getElem?_zip_eq_some]; exact ⟨es, hx.out⟩
          have hbz := hb.size
          obtain ⟨b1, o1, rfl, l1', hc⟩ := Cl_at (f := fun p : LS × Lin => p.1.cl p.2) (fun _ _ => rfl) l2 hlt za
          have c4 := hc 4 (by omega)
          have c5 := hc 5 (by omega)
          simp only [LS.cl, List.getElem?_cons_zero, List.getElem?_cons_succ] at c4 c5
          have i0 : (0 : Int) ≤ (k : Int) := by omega
          have i1 : (k : Int) < (l.length : Int) := by omega
          have q : Hid (∀ w', Below wr.heap.size wr w' → Calls Tryz.prog 82 #[.slice p2 x.rules.length m2, .slice p3 x.off.length m3] w' (Ret (.int .i64 (calE x.rules x.off)) w')) := Lib.hid (fun w' h => ra_cal p2 p3 m2 m3 x.rules x.off w' ((rs.r2.below (h.mono hbz)).more (Nat.le_trans hbz h.size)) ((rs.r3.below (h.mono hbz)).more (Nat.le_trans hbz h.size)) hsx.2.2.1 hsx.2.2.2)
          have KS : Hid (∀ w', Below wr.heap.size wr w' → w'.cell? ⟨W.heap.size, 1, none⟩ = some (.slice (some ⟨b1, o1, none⟩) l.length c) ∧ w'.cell? ⟨b1, o1 + k * 6 + 4, none⟩ = some (.slice p2 x.rules.length m2) ∧ w'.cell? ⟨b1, o1 + k * 6 + 5, none⟩ = some (.slice p3 x.off.length m3)) := Lib.hid (fun w' h => ⟨(BT.below h BT.lt).cell 1, (h.cell (p := ⟨b1, o1 + k * 6 + 4, none⟩) (by show b1 < _; omega)).trans c4, (h.cell (p := ⟨b1, o1 + k * 6 + 5, none⟩) (by show b1 < _; omega)).trans c5⟩)
          generalize calE x.rules x.off = E at *
          clear hc l2 l3 es rs za c4 c5
          go_upto_region 13 with fail
          refine wp_region_schB (f := 13) KS [(0, 1), (1, 2), (2, 1), (3, 1), (4, 1), (5, 2), (6, 1), (7, 2), (8, 1), (9, 1), (10, 1), (11, 2), (12, 0), (13, 3)] ?_
          simp only [pickS, List.getElem?_cons_zero, List.getElem?_cons_succ]
          refine wpSched_t ?_
          refine wpSched_r ?_
          refine wpSched_t ?_
          refine wpSched_t ?_
          refine wpSched_t ?_
          refine wpSched_r ?_
          refine wpSched_t ?_
          refine wpSched_r ?_
          refine wpSched_t ?_
          refine wpSched_t ?_
          refine wpSched_t ?_
          refine wpSched_r ?_
          refine wpSched_force (fun K hK => ?_)
          go_simp; (first | (go_at_call 82; (with_reducible refine (q.out _ (bDr (bRefl _))).mono ?_); rintro e w6 ⟨rfl, b6⟩; have B6 : Below wr.heap.size wr w6 := bCall (bDr (bRefl _)) b6) | skip)
          refine shut_go hK KS ?_
          clear hK K
          refine wpSched_last ?_
          first | simp only [List.map_nil] | simp only [List.map_cons, List.map_nil]
          have BT6 := BT.below B6 BT.lt
          have hb6 := hb.trans (B6.mono hbz)
          clear KS d1 q b6
          by_cases hE : E = 0
          · have hp2 := Lib.hid (hdrop.out.trans (if_pos hE))
            clear hdrop
            subst hE
            go_wp2_with fail
            refine NoPanic.normal ?_
            go_wp2_with fail
            exact ⟨⟨k + 1, by omega, by go_num, hb6, BT6, hp2⟩, by simp [intOf]; omega⟩
          · have hv2 : Hid (v = E) := Lib.hid (hv3.out.trans (hdrop.out.trans (if_neg hE)))
            have hEn : (E != 0) = true := by simpa using hE
            clear hdrop hE
            go_wp2_with fail
            refine NoPanic.normal ?_
            go_wp2_with fail
            go_ret
            exact ⟨ret_int hv2.out.symm, hb6⟩
        · have hfin : Hid (v = 0) := Lib.hid (by
            rw [hv3.out, hp.out, List.drop_of_length_le (by omega)]
            rfl)
          go_wp2_with fail
          go_ret
          exact ⟨ret_int hfin.out.symm, hb⟩
end Go.Proofs.YtmbopkcmbiommaaGreatDoor
