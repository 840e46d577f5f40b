/-
  The reference's Same: worlds that are the same; walked.
-/
import Derived.Test.YtmbopkcmbiommaaGreatDoorMah
import Derived.Test.YtmbopkcmbiommaaGreatDoorMaj
namespace Go.Proofs.YtmbopkcmbiommaaGreatDoor
open Go Go.RowKit

/-- An element of a slice is loaded whole. -/
theorem el_load {α : Type} {f : α → List Value} {w : World} {B sz n k : Nat} {A : Option Addr} {l : List α} {x : α} {ty : TypeId} {d : TypeDesc} (hsz : ∀ y ∈ l, (f y).length = sz) (h : Rd w B sz A n (l.flatMap f)) (hn : k < n) (hx : l[k]? = some x) (hu : Tryz.prog.underlying ty = some d) (hd : d.isRow = true) (hi : (Tryz.prog.info? ty).map (·.size) = some sz) (hB : B ≤ w.heap.size) :
    ∃ b off, A = some ⟨b, off, none⟩ ∧ b < B ∧ ∀ w', Below w.heap.size w w' → (Instr.loadAt ty (.pointer (some ⟨b, off + k * sz, none⟩))).run Tryz.prog w' = .ok (.agg (f x).toArray) w' := by
  obtain ⟨b, off, e, hb, hc⟩ := Cl_at hsz h hn hx
  have hl := hsz x (List.mem_of_getElem? hx)
  refine ⟨b, off, e, hb, fun w' h' => run_loadAt_mid w' b _ ty (f x) d (fun j v hj => ?_) hu hd (by rw [hl]; exact hi)⟩
  rw [h'.cell (p := ⟨b, off + k * sz + j, none⟩) (by show b < _; omega), hc j (by rw [← hl]; exact (List.getElem?_eq_some_iff.1 hj).1)]
  exact hj

set_option maxRecDepth 100000 in
theorem ne_rl (x : Rl) (w : World) : (binOp .neq 59 (.agg x.cl.toArray) (.agg x.cl.toArray)).run Tryz.prog w = .ok (.bool false) w := by
  have hS : Tryz.prog.underlying 59 = some (.struct (Tryz.prog.fieldsOf 59)) := by kernel_rfl
  have hp : Tryz.prog.stoodInHeld 59 = false := by kernel_rfl
  have h : (Op.equalIn 10000 59 (.agg x.cl.toArray) (.agg x.cl.toArray)).run Tryz.prog w = .ok true w := by
    have u3 := Tryz.underlying3
    have a3 := Tryz.isAgg3
    have z3 := Tryz.sizeOf3
    unfold Rl.cl
    rw [show (10000 : Nat) = 9998 + 1 + 1 from rfl, run_equalIn_agg w (9998 + 1) 59 _ _ hS hp]
    simp only [Program.fieldsOf, Tryz.underlying59]
    go_simp
  rw [run_neq_struct, h]; rfl

set_option maxRecDepth 100000 in
theorem ne_gp (x : Gp) (w : World) : (binOp .neq 61 (.agg x.cl.toArray) (.agg x.cl.toArray)).run Tryz.prog w = .ok (.bool false) w := by
  have hS : Tryz.prog.underlying 61 = some (.struct (Tryz.prog.fieldsOf 61)) := by kernel_rfl
  have hp : Tryz.prog.stoodInHeld 61 = false := by kernel_rfl
  have h : (Op.equalIn 10000 61 (.agg x.cl.toArray) (.agg x.cl.toArray)).run Tryz.prog w = .ok true w := by
    have u3 := Tryz.underlying3
    have a3 := Tryz.isAgg3
    have z3 := Tryz.sizeOf3
    unfold Gp.cl
    rw [show (10000 : Nat) = 9998 + 1 + 1 from rfl, run_equalIn_agg w (9998 + 1) 61 _ _ hS hp]
    simp only [Program.fieldsOf, Tryz.underlying61]
    go_simp
  rw [run_neq_struct, h]; rfl

set_option maxRecDepth 100000 in
theorem ne_tie (x : Tie) (w : World) : (binOp .neq 63 (.agg x.cl.toArray) (.agg x.cl.toArray)).run Tryz.prog w = .ok (.bool false) w := by
  have hS : Tryz.prog.underlying 63 = some (.struct (Tryz.prog.fieldsOf 63)) := by kernel_rfl
  have hp : Tryz.prog.stoodInHeld 63 = false := by kernel_rfl
  have h : (Op.equalIn 10000 63 (.agg x.cl.toArray) (.agg x.cl.toArray)).run Tryz.prog w = .ok true w := by
    have u3 := Tryz.underlying3
    have a3 := Tryz.isAgg3
    have z3 := Tryz.sizeOf3
    unfold Tie.cl
    rw [show (10000 : Nat) = 9998 + 1 + 1 from rfl, run_equalIn_agg w (9998 + 1) 63 _ _ hS hp]
    simp only [Program.fieldsOf, Tryz.underlying63]
    go_simp
  rw [run_neq_struct, h]; rfl

set_option maxRecDepth 100000 in
theorem ne_ent (x : Ent) (w : World) : (binOp .neq 67 (.agg x.cl.toArray) (.agg x.cl.toArray)).run Tryz.prog w = .ok (.bool false) w := by
  have hS : Tryz.prog.underlying 67 = some (.struct (Tryz.prog.fieldsOf 67)) := by kernel_rfl
  have hp : Tryz.prog.stoodInHeld 67 = false := by kernel_rfl
  have h : (Op.equalIn 10000 67 (.agg x.cl.toArray) (.agg x.cl.toArray)).run Tryz.prog w = .ok true w := by
    have u3 := Tryz.underlying3
    have a3 := Tryz.isAgg3
    have z3 := Tryz.sizeOf3
    unfold Ent.cl
    rw [show (10000 : Nat) = 9998 + 1 + 1 from rfl, run_equalIn_agg w (9998 + 1) 67 _ _ hS hp]
    simp only [Program.fieldsOf, Tryz.underlying67]
    go_simp
  rw [run_neq_struct, h]; rfl

set_option maxRecDepth 100000 in
theorem ne_slp (x : Slp) (w : World) : (binOp .neq 71 (.agg x.cl.toArray) (.agg x.cl.toArray)).run Tryz.prog w = .ok (.bool false) w := by
  have hS : Tryz.prog.underlying 71 = some (.struct (Tryz.prog.fieldsOf 71)) := by kernel_rfl
  have hp : Tryz.prog.stoodInHeld 71 = false := by kernel_rfl
  have hS1 : Tryz.prog.underlying 69 = some (.struct (Tryz.prog.fieldsOf 69)) := by kernel_rfl
  have hp1 : Tryz.prog.stoodInHeld 69 = false := by kernel_rfl
  have u3 := Tryz.underlying3
  have a3 := Tryz.isAgg3
  have z3 := Tryz.sizeOf3
  have a4 := Tryz.isAgg69
  have z4 := Tryz.sizeOf69
  have h1 : (Op.equalIn 9999 69 (.agg #[.int .i64 x.leg, .int .i64 x.kind, .int .i64 x.at_]) (.agg #[.int .i64 x.leg, .int .i64 x.kind, .int .i64 x.at_])).run Tryz.prog w = .ok true w := by
    rw [show (9999 : Nat) = 9997 + 1 + 1 from rfl, run_equalIn_agg w (9997 + 1) 69 _ _ hS1 hp1]
    simp only [Program.fieldsOf, Tryz.underlying69]
    go_simp
  have h : (Op.equalIn 10000 71 (.agg x.cl.toArray) (.agg x.cl.toArray)).run Tryz.prog w = .ok true w := by
    unfold Slp.cl
    rw [show (10000 : Nat) = 9998 + 1 + 1 from rfl, run_equalIn_agg w (9998 + 1) 71 _ _ hS hp]
    simp only [Program.fieldsOf, Tryz.underlying71]
    clear hS hp hS1 hp1
    trace_state
    go_simp
  rw [run_neq_struct, h]; rfl

set_option maxRecDepth 100000 in
set_option maxHeartbeats 2000000 in
theorem same_ints (A B : Option Addr) (c d : Nat) (l : List Int) (W : World) (hA : Rd W W.heap.size 1 A l.length (ints l)) (hB : Rd W W.heap.size 1 B l.length (ints l)) (hn : l.length ≤ 1000000) :
    Calls Tryz.prog 34 #[.slice A l.length c, .slice B l.length d] W (Ret (.bool true) W) := by
  go_enter Tryz.func34, Tryz.ntmps34
  go_wp2_with fail
  go_loopw [5] (fun i wr => ∃ k : Nat, k ≤ l.length ∧ i = .int .i64 k ∧ Below W.heap.size W wr) (fun i _ => l.length - (intOf i).toNat)
  case atStart => exact ⟨0, Nat.zero_le _, rfl, bRefl W⟩
  case round =>
    obtain ⟨k, hkn, rfl, hb⟩ := hrel
    by_cases hlt : k < l.length
    · obtain ⟨x, hx⟩ : ∃ x, Hid (l[k]? = some x) := ⟨_, Lib.hid (List.getElem?_eq_getElem hlt)⟩
      obtain ⟨b1, o1, rfl, l1, h1⟩ := (hA.below hb).2 (by omega)
      obtain ⟨b2, o2, rfl, l2, h2⟩ := (hB.below hb).2 (by omega)
      have c1 := h1 k _ (ints_at hx.out)
      have c2 := h2 k _ (ints_at hx.out)
      have hbz := hb.size
      have i0 : (0 : Int) ≤ (k : Int) := by omega
      have i1 : (k : Int) < (l.length : Int) := by omega
      have KS : Hid (∀ w', Below wr.heap.size wr w' → w'.cell? ⟨b1, o1 + k, none⟩ = some (.int .i64 x) ∧ w'.cell? ⟨b2, o2 + k, none⟩ = some (.int .i64 x)) := Lib.hid (fun w' h => ⟨(h.cell (p := ⟨b1, o1 + k, none⟩) (by show b1 < _; omega)).trans c1, (h.cell (p := ⟨b2, o2 + k, none⟩) (by show b2 < _; omega)).trans c2⟩)
      clear h1 h2 c1 c2
      go_upto_region 6 with fail
      refine wp_region_schB (f := 8) KS [(0, 1), (1, 1), (2, 1), (3, 2), (4, 1), (5, 1), (6, 1), (7, 2), (8, 3)] ?_
      simp only [pickS, List.getElem?_cons_zero, List.getElem?_cons_succ]
      refine wpSched_t ?_
      refine wpSched_t ?_
      refine wpSched_t ?_
      refine wpSched_r ?_
      refine wpSched_t ?_
      refine wpSched_t ?_
      refine wpSched_t ?_
      refine wpSched_r ?_
      refine wpSched_last ?_
      first | simp only [List.map_nil] | simp only [List.map_cons, List.map_nil]
      clear KS
      go_wp2_with fail
      refine NoPanic.normal ?_
      go_wp2_with fail
      exact ⟨⟨k + 1, by omega, by go_num, bDr hb⟩, by simp [intOf]; omega⟩
    · go_wp2_with fail
      go_ret
      exact ⟨rfl, hb⟩

set_option maxRecDepth 100000 in
set_option maxHeartbeats 2000000 in
theorem same_ints2 (A B : Option Addr) (c d : Nat) (l : List Int) (W : World) (hA : Rd W W.heap.size 1 A l.length (ints l)) (hB : Rd W W.heap.size 1 B l.length (ints l)) (hn : l.length ≤ 1000000) :
    Calls Tryz.prog 104 #[.slice A l.length c, .slice B l.length d] W (Ret (.bool true) W) := by
  go_enter Tryz.func104, Tryz.ntmps104
  go_wp2_with fail
  go_loopw [5] (fun i wr => ∃ k : Nat, k ≤ l.length ∧ i = .int .i64 k ∧ Below W.heap.size W wr) (fun i _ => l.length - (intOf i).toNat)
  case atStart => exact ⟨0, Nat.zero_le _, rfl, bRefl W⟩
  case round =>
    obtain ⟨k, hkn, rfl, hb⟩ := hrel
    by_cases hlt : k < l.length
    · obtain ⟨x, hx⟩ : ∃ x, Hid (l[k]? = some x) := ⟨_, Lib.hid (List.getElem?_eq_getElem hlt)⟩
      obtain ⟨b1, o1, rfl, l1, h1⟩ := (hA.below hb).2 (by omega)
      obtain ⟨b2, o2, rfl, l2, h2⟩ := (hB.below hb).2 (by omega)
      have c1 := h1 k _ (ints_at hx.out)
      have c2 := h2 k _ (ints_at hx.out)
      have hbz := hb.size
      have i0 : (0 : Int) ≤ (k : Int) := by omega
      have i1 : (k : Int) < (l.length : Int) := by omega
      have KS : Hid (∀ w', Below wr.heap.size wr w' → w'.cell? ⟨b1, o1 + k, none⟩ = some (.int .i64 x) ∧ w'.cell? ⟨b2, o2 + k, none⟩ = some (.int .i64 x)) := Lib.hid (fun w' h => ⟨(h.cell (p := ⟨b1, o1 + k, none⟩) (by show b1 < _; omega)).trans c1, (h.cell (p := ⟨b2, o2 + k, none⟩) (by show b2 < _; omega)).trans c2⟩)
      clear h1 h2 c1 c2
      go_upto_region 6 with fail
      refine wp_region_schB (f := 8) KS [(0, 1), (1, 1), (2, 1), (3, 2), (4, 1), (5, 1), (6, 1), (7, 2), (8, 3)] ?_
      simp only [pickS, List.getElem?_cons_zero, List.getElem?_cons_succ]
      refine wpSched_t ?_
      refine wpSched_t ?_
      refine wpSched_t ?_
      refine wpSched_r ?_
      refine wpSched_t ?_
      refine wpSched_t ?_
      refine wpSched_t ?_
      refine wpSched_r ?_
      refine wpSched_last ?_
      first | simp only [List.map_nil] | simp only [List.map_cons, List.map_nil]
      clear KS
      go_wp2_with fail
      refine NoPanic.normal ?_
      go_wp2_with fail
      exact ⟨⟨k + 1, by omega, by go_num, bDr hb⟩, by simp [intOf]; omega⟩
    · go_wp2_with fail
      go_ret
      exact ⟨rfl, hb⟩

set_option maxRecDepth 100000 in
set_option maxHeartbeats 2000000 in
theorem same_ents (A B : Option Addr) (c d : Nat) (l : List Ent) (W : World) (hA : Rd W W.heap.size 8 A l.length (l.flatMap Ent.cl)) (hB : Rd W W.heap.size 8 B l.length (l.flatMap Ent.cl)) (hn : l.length ≤ 1000000) :
    Calls Tryz.prog 36 #[.slice A l.length c, .slice B l.length d] W (Ret (.bool true) W) := by
  go_enter Tryz.func36, Tryz.ntmps36
  go_wp2_with fail
  go_loopw [5] (fun i wr => ∃ k : Nat, k ≤ l.length ∧ i = .int .i64 k ∧ Below W.heap.size W wr) (fun i _ => l.length - (intOf i).toNat)
  case atStart => exact ⟨0, Nat.zero_le _, rfl, bRefl W⟩
  case round =>
    obtain ⟨k, hkn, rfl, hb⟩ := hrel
    by_cases hlt : k < l.length
    · obtain ⟨x, hx⟩ : ∃ x, Hid (l[k]? = some x) := ⟨_, Lib.hid (List.getElem?_eq_getElem hlt)⟩
      have hbz := hb.size
      obtain ⟨b1, o1, rfl, l1, h1⟩ := el_load (f := Ent.cl) (fun _ _ => rfl) (hA.below hb) hlt hx.out Tryz.underlying67 rfl (by kernel_rfl) hbz
      obtain ⟨b2, o2, rfl, l2, h2⟩ := el_load (f := Ent.cl) (fun _ _ => rfl) (hB.below hb) hlt hx.out Tryz.underlying67 rfl (by kernel_rfl) hbz
      have hq := ne_ent x
      generalize x.cl.toArray = X at *
      have i0 : (0 : Int) ≤ (k : Int) := by omega
      have i1 : (k : Int) < (l.length : Int) := by omega
      have KS : Hid (∀ w', Below wr.heap.size wr w' → (Instr.loadAt 67 (.pointer (some ⟨b1, o1 + k * 8, none⟩))).run Tryz.prog w' = .ok (.agg X) w' ∧ (Instr.loadAt 67 (.pointer (some ⟨b2, o2 + k * 8, none⟩))).run Tryz.prog w' = .ok (.agg X) w') := Lib.hid (fun w' h => ⟨h1 w' h, h2 w' h⟩)
      clear h1 h2
      go_upto_region 6 with fail
      refine wp_region_schB (f := 8) KS [(0, 1), (1, 1), (2, 1), (3, 2), (4, 1), (5, 1), (6, 1), (7, 2), (8, 3)] ?_
      simp only [pickS, List.getElem?_cons_zero, List.getElem?_cons_succ]
      refine wpSched_t ?_
      refine wpSched_t ?_
      refine wpSched_t ?_
      refine wpSched_r (v := ?vq1) (hv := ?hq1) ?_; case hq1 => (intro w hSw; (first | refine (exec_load rfl rfl hSw).trans ?_ | refine (exec_load rfl rfl hSw.1).trans ?_ | refine (exec_load rfl rfl hSw.2.1).trans ?_ | refine (exec_load rfl rfl hSw.2.2.1).trans ?_ | refine (exec_load rfl rfl hSw.2).trans ?_ | refine (exec_load rfl rfl hSw.2.2).trans ?_); with_reducible rfl)
      refine wpSched_t ?_
      refine wpSched_t ?_
      refine wpSched_t ?_
      refine wpSched_r (v := ?vq2) (hv := ?hq2) ?_; case hq2 => (intro w hSw; (first | refine (exec_load rfl rfl hSw).trans ?_ | refine (exec_load rfl rfl hSw.1).trans ?_ | refine (exec_load rfl rfl hSw.2.1).trans ?_ | refine (exec_load rfl rfl hSw.2.2.1).trans ?_ | refine (exec_load rfl rfl hSw.2).trans ?_ | refine (exec_load rfl rfl hSw.2.2).trans ?_); with_reducible rfl)
      refine wpSched_last ?_
      first | simp only [List.map_nil] | simp only [List.map_cons, List.map_nil]
      clear KS
      go_wp2_with fail
      refine NoPanic.normal ?_
      go_wp2_with fail
      exact ⟨⟨k + 1, by omega, by go_num, bDr hb⟩, by simp [intOf]; omega⟩
    · go_wp2_with fail
      go_ret
      exact ⟨rfl, hb⟩

set_option maxRecDepth 100000 in
set_option maxHeartbeats 4000000 in
theorem same_order (x : Odr) (A B : Option Addr) (c d : Nat) (W : World) (hA : Rd W W.heap.size 1 A x.ag.length (ints x.ag)) (hB : Rd W W.heap.size 1 B x.ag.length (ints x.ag)) (hn : x.ag.length ≤ 1000000) :
    Calls Tryz.prog 61 #[.agg (x.cl (.slice A x.ag.length c)).toArray, .agg (x.cl (.slice B x.ag.length d)).toArray] W (Ret (.bool true) W) := by
  have q : Hid (∀ w', Below W.heap.size W w' → Calls Tryz.prog 104 #[.slice A x.ag.length c, .slice B x.ag.length d] w' (Ret (.bool true) w')) := Lib.hid (fun w' h => same_ints2 A B c d x.ag w' ((hA.below h).more h.size) ((hB.below h).more h.size) hn)
  clear hA hB
  unfold Odr.cl
  have hb := bAl (bAl (bRefl W) (.cells (x.cl (.slice A x.ag.length c)).toArray 65)) (.cells (x.cl (.slice B x.ag.length d)).toArray 65)
  unfold Odr.cl at hb
  go_enter Tryz.func61, Tryz.ntmps61
  go_wp2_with (go_at_call 104; (with_reducible refine (q.out _ hb).mono ?_); rintro e w5 ⟨rfl, b5⟩)
  go_ret
  exact ⟨rfl, bCall hb b5⟩
set_option maxRecDepth 100000 in
set_option maxHeartbeats 4000000 in
theorem same_orders (A B : Option Addr) (c d : Nat) (l : List Odr) (va vb : List Value) (W : World) (hA : Rd W W.heap.size 11 A l.length (odrsCl l va)) (hB : Rd W W.heap.size 11 B l.length (odrsCl l vb)) (hla : va.length = l.length) (hlb : vb.length = l.length)
    (ha : ∀ (k : Nat) (y : Odr), l[k]? = some y → ∃ A c, va[k]? = some (Value.slice A y.ag.length c) ∧ Rd W W.heap.size 1 A y.ag.length (ints y.ag)) (hb0 : ∀ (k : Nat) (y : Odr), l[k]? = some y → ∃ A c, vb[k]? = some (Value.slice A y.ag.length c) ∧ Rd W W.heap.size 1 A y.ag.length (ints y.ag)) (hn : l.length ≤ 1000000) (hf : ∀ o ∈ l, o.ag.length ≤ 1000000) :
    Calls Tryz.prog 35 #[.slice A l.length c, .slice B l.length d] W (Ret (.bool true) W) := by
  go_enter Tryz.func35, Tryz.ntmps35
  go_wp2_with fail
  go_loopw [5] (fun i wr => ∃ k : Nat, k ≤ l.length ∧ i = .int .i64 k ∧ Below W.heap.size W wr) (fun i _ => l.length - (intOf i).toNat)
  case atStart => exact ⟨0, Nat.zero_le _, rfl, bRefl W⟩
  case round =>
    obtain ⟨k, hkn, rfl, hb⟩ := hrel
    by_cases hlt : k < l.length
    · obtain ⟨x, hx⟩ : ∃ x, Hid (l[k]? = some x) := ⟨_, Lib.hid (List.getElem?_eq_getElem hlt)⟩
      have hbz := hb.size
      obtain ⟨Aa, ca, ea, ra⟩ := ha k x hx.out
      obtain ⟨Ab, cb, eb, rb⟩ := hb0 k x hx.out
      have za : (l.zip va)[k]? = some (x, Value.slice Aa x.ag.length ca) := by rw [List.getElem?_zip_eq_some]; exact ⟨hx.out, ea⟩
      have zb : (l.zip vb)[k]? = some (x, Value.slice Ab x.ag.length cb) := by rw [List.getElem?_zip_eq_some]; exact ⟨hx.out, eb⟩
      obtain ⟨b1, o1, rfl, l1, h1⟩ := el_load (f := fun p : Odr × Value => p.1.cl p.2) (fun _ _ => rfl) (hA.below hb) hlt za Tryz.underlying65 rfl (by kernel_rfl) hbz
      obtain ⟨b2, o2, rfl, l2, h2⟩ := el_load (f := fun p : Odr × Value => p.1.cl p.2) (fun _ _ => rfl) (hB.below hb) hlt zb Tryz.underlying65 rfl (by kernel_rfl) hbz
      have q : Hid (∀ w', Below wr.heap.size wr w' → Calls Tryz.prog 61 #[.agg (x.cl (.slice Aa x.ag.length ca)).toArray, .agg (x.cl (.slice Ab x.ag.length cb)).toArray] w' (Ret (.bool true) w')) := Lib.hid (fun w' h => same_order x Aa Ab ca cb w' (((ra.below hb).below (h.mono hbz)).more (Nat.le_trans hbz h.size)) (((rb.below hb).below (h.mono hbz)).more (Nat.le_trans hbz h.size)) (hf x (List.mem_of_getElem? hx.out)))
      dsimp only at h1 h2
      generalize (x.cl (.slice Aa x.ag.length ca)).toArray = X at *
      generalize (x.cl (.slice Ab x.ag.length cb)).toArray = Y at *
      have i0 : (0 : Int) ≤ (k : Int) := by omega
      have i1 : (k : Int) < (l.length : Int) := by omega
      have KS : Hid (∀ w', Below wr.heap.size wr w' → (Instr.loadAt 65 (.pointer (some ⟨b1, o1 + k * 11, none⟩))).run Tryz.prog w' = .ok (.agg X) w' ∧ (Instr.loadAt 65 (.pointer (some ⟨b2, o2 + k * 11, none⟩))).run Tryz.prog w' = .ok (.agg Y) w') := Lib.hid (fun w' h => ⟨h1 w' h, h2 w' h⟩)
      clear h1 h2 ea eb ra rb za zb
      go_upto_region 6 with fail
      refine wp_region_schB (f := 9) KS [(0, 1), (1, 1), (2, 1), (3, 2), (4, 1), (5, 1), (6, 1), (7, 2), (8, 0), (9, 3)] ?_
      simp only [pickS, List.getElem?_cons_zero, List.getElem?_cons_succ]
      refine wpSched_t ?_
      refine wpSched_t ?_
      refine wpSched_t ?_
      refine wpSched_r (v := ?vq3) (hv := ?hq3) ?_; case hq3 => (intro w hSw; (first | refine (exec_load rfl rfl hSw).trans ?_ | refine (exec_load rfl rfl hSw.1).trans ?_ | refine (exec_load rfl rfl hSw.2.1).trans ?_ | refine (exec_load rfl rfl hSw.2.2.1).trans ?_ | refine (exec_load rfl rfl hSw.2).trans ?_ | refine (exec_load rfl rfl hSw.2.2).trans ?_); with_reducible rfl)
      refine wpSched_t ?_
      refine wpSched_t ?_
      refine wpSched_t ?_
      refine wpSched_r (v := ?vq4) (hv := ?hq4) ?_; case hq4 => (intro w hSw; (first | refine (exec_load rfl rfl hSw).trans ?_ | refine (exec_load rfl rfl hSw.1).trans ?_ | refine (exec_load rfl rfl hSw.2.1).trans ?_ | refine (exec_load rfl rfl hSw.2.2.1).trans ?_ | refine (exec_load rfl rfl hSw.2).trans ?_ | refine (exec_load rfl rfl hSw.2.2).trans ?_); with_reducible rfl)
      refine wpSched_force (fun K hK => ?_)
      go_simp; (first | (go_at_call 61; (with_reducible refine (q.out _ (bDr (bRefl _))).mono ?_); rintro e w6 ⟨rfl, b6⟩; have B6 : Below wr.heap.size wr w6 := bCall (bDr (bRefl _)) b6) | skip)
      refine shut_go hK KS ?_
      clear hK K
      refine wpSched_last ?_
      first | simp only [List.map_nil] | simp only [List.map_cons, List.map_nil]
      clear KS
      go_wp2_with fail
      refine NoPanic.normal ?_
      go_wp2_with fail
      exact ⟨⟨k + 1, by omega, by go_num, hb.trans (B6.mono hbz)⟩, by simp [intOf]; omega⟩
    · go_wp2_with fail
      go_ret
      exact ⟨rfl, hb⟩
end Go.Proofs.YtmbopkcmbiommaaGreatDoor
