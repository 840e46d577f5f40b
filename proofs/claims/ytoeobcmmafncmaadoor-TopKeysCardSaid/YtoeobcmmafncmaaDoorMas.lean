/-
  elgamal: what changes one cipher.
-/
import Derived.Test.YtoeobcmmafncmaaDoorMap
import Derived.Test.YtoeobcmmafncmaaDoorMar
namespace Go.Proofs.YtoeobcmmafncmaaDoor
open Go.RowKit

/-- A cipher's second number lies anew; what was made lies behind. -/
def Anew (s o : Nat) (a b : Int) (W : World) : Ending → World → Prop := fun e w' =>
  e = .returned (.tuple #[]) ∧ ∃ w1, Below W.heap.size W w1 ∧ w' = (w1.setCell ⟨s, o, none⟩ (.int .i64 a)).setCell ⟨s, o + 1, none⟩ (.int .i64 b)

theorem cell_far {w : World} {b1 b2 o1 o2 : Nat} {v u : Value} (h : w.cell? ⟨b1, o1, none⟩ = some v) (hne : o2 ≠ o1) : (w.setCell ⟨b2, o2, none⟩ u).cell? ⟨b1, o1, none⟩ = some v :=
  (World.cell?_setCell_other _ _ _ _ (by intro e; injection e with e1 e2; exact hne e2)).trans h

set_option maxRecDepth 100000 in
set_option maxHeartbeats 2000000 in
theorem more1 (W : World) (i : Int) (j kb rb s o : Nat) (key r a b : Int) (hi : i = 0 ∧ j = 0 ∨ i = 1 ∧ j = 1 ∨ i = 2 ∧ j = 2) (ha : inP a) (hb : inP b)
    (c1 : W.cell? ⟨kb, 0, none⟩ = some (.int .i64 key)) (c4 : W.cell? ⟨rb, j, none⟩ = some (.int .i64 r)) (c2 : W.cell? ⟨s, o, none⟩ = some (.int .i64 a)) (c3 : W.cell? ⟨s, o + 1, none⟩ = some (.int .i64 b))
    (f2 : W.frozen? ⟨s, o, none⟩ = false) (f3 : W.frozen? ⟨s, o + 1, none⟩ = false) (h1 : kb < W.heap.size) (h4 : rb < W.heap.size) (h2 : s < W.heap.size) :
    Calls Tryd.prog 50 #[.int .i64 i, .pointer (some ⟨s, o, none⟩), .pointer (some ⟨rb, 0, none⟩), .pointer (some ⟨kb, 0, none⟩)] W
      (Anew s o (timesL [a, powV 4 r]) (timesL [b, powV key r]) W) := by
  rcases hi with ⟨rfl, rfl⟩ | ⟨rfl, rfl⟩ | ⟨rfl, rfl⟩
  all_goals
    go_enter Tryd.func50, Tryd.ntmps50
    go_wp2_with fail
    refine wp_region_mask (fun w' => w'.cell? ⟨kb, 0, none⟩ = some (.int .i64 key) ∧ w'.cell? ⟨rb, _, none⟩ = some (.int .i64 r) ∧ w'.cell? ⟨s, o, none⟩ = some (.int .i64 a) ∧ w'.cell? ⟨s, o + 1, none⟩ = some (.int .i64 b)) 25 8 [1, 1, 1, 1, 1, 2, 1, 1, 2, 0, 0, 0, 1, 1, 1, 2, 2, 1, 1, 2, 0, 0, 0, 0, 0, 0, 0, 0, 0] (by kernel_rfl) (by kernel_rfl) (by exact (fun B => ⟨(Below.cell B h1).trans c1, (Below.cell B h4).trans c4, (Below.cell B h2).trans c2, (Below.cell B h2).trans c3⟩ : Below W.heap.size W _ → _) (by repeat (first | exact B2 | exact B1 | exact bRefl _ | refine bAl ?_ _ | refine bDr ?_))) ?_
    simp only [pickH, pickT]
    refine wpHeads_t ?_
    refine wpHeads_t ?_
    refine wpHeads_t ?_
    refine wpHeads_t ?_
    refine wpHeads_t ?_
    refine wpHeads_r ?_
    refine wpHeads_t ?_
    refine wpHeads_t ?_
    refine wpHeads_r ?_
    refine wpHeads_t ?_
    refine wpHeads_t ?_
    refine wpHeads_t ?_
    refine wpHeads_r ?_
    refine wpHeads_r ?_
    refine wpHeads_t ?_
    refine wpHeads_t ?_
    refine wpHeads_r ?_
    refine wpHeads_nil ?_
    iterate 8 (refine wpTailS_cons (fun K hK => ?_); go_simp; (first | (go_at_call 51; (with_reducible refine (el_times2 b (powV key r) _ hb (powV_inP _ _)).mono ?_); rintro e w' ⟨rfl, rfl⟩) | (go_at_call 51; (with_reducible refine (el_times2 a (powV 4 r) _ ha (powV_inP _ _)).mono ?_); rintro e w' ⟨rfl, rfl⟩) | (go_at_call 52; (with_reducible refine (el_power 4 r _).mono ?_); rintro e w1 ⟨rfl, b1⟩; have B1 : Below W.heap.size W w1 := bCall (by repeat (first | exact bRefl _ | refine bAl ?_ _ | refine bDr ?_)) b1) | (go_at_call 52; (with_reducible refine (el_power key r _).mono ?_); rintro e w2 ⟨rfl, b2⟩; have B2 : Below W.heap.size W w2 := bCall (by repeat (first | exact B1 | exact bRefl _ | refine bAl ?_ _ | refine bDr ?_)) b2) | skip); refine hK.out _ _ (by exact (fun B => ⟨(Below.cell B h1).trans c1, (Below.cell B h4).trans c4, (Below.cell B h2).trans c2, (Below.cell B h2).trans c3⟩ : Below W.heap.size W _ → _) (by repeat (first | exact B2 | exact B1 | exact bRefl _ | refine bAl ?_ _ | refine bDr ?_))) (fun hHeld => ?_); clear hHeld hK K; try simp only [Act.put, List.setIfInBounds_toArray, List.set_cons_zero, List.set_cons_succ])
    refine wpTailS_zero ?_
    have B3 := bAl B2 (.cells #[.int .i64 b, .int .i64 (powV key r)] 3)
    have k2 := (Below.cell B3 h2).trans c2
    have z2 := (Below.frozen B3 h2).trans f2
    have k3 := (Below.cell B3 h2).trans c3
    have z3 := (Below.frozen B3 h2).trans f3
    generalize w2.alloc (.cells #[.int .i64 b, .int .i64 (powV key r)] 3) = w3 at *
    have k3' := cell_far (b2 := s) (u := .int .i64 (timesL [a, powV 4 r])) k3 (show o ≠ o + 1 by omega)
    go_wp2_with fail
    refine NoPanic.normal ?_
    go_wp2_with fail
    exact ⟨rfl, .tuple #[], by simp [results, Tryd.results50, go_sem], rfl, w3, B3, rfl⟩
end Go.Proofs.YtoeobcmmafncmaaDoor

/-
  elgamal.ciphers: what it yields.
-/
namespace Go.Proofs.YtoeobcmmafncmaaDoor
open Go.RowKit

theorem ciphers_any (s : Nat) (w : World) :
    Calls Tryd.prog 46 #[.pointer (some ⟨s, 0, none⟩)] w fun r w' =>
      r = .returned (.func (.func 74) #[] #[.pointer (some ⟨w.heap.size, 0, none⟩)]) ∧ w' = w.alloc (.cells #[.pointer (some ⟨s, 0, none⟩)] 117) := by
  have hmf : ∀ (fn : Fn) (first cap : Array Value) (w : World), (Instr.makeFunc fn first cap).run Tryd.prog w = .ok (.func fn first cap) w := fun _ _ _ _ => rfl
  go_enter Tryd.func46, Tryd.ntmps46
  go_wp2
  go_ret
  exact ⟨rfl, rfl⟩

/-- What is yielded: an index, and the cipher's place. -/
def cphE (s : Nat) (k : Fin 3) : Array Value := #[.int .i64 (k.val : Nat), .pointer (some ⟨s, 2 * k.val, none⟩)]

set_option maxRecDepth 100000 in
set_option maxHeartbeats 2000000 in
theorem ciphers_loop (L bp s : Nat) (S : Nat → Prop) (hbp : S bp) (J Jx : List (Fin 3) → World → Prop) (W : World)
    (hY : ∀ pre x W1, J pre W1 → pre.length < 3 → YieldAt Fence.wide (2 + 1 - 1) Tryd.prog L (cphE s x) W1 fun e W' =>
      (e = .returned (.bool true) ∧ J (pre ++ [x]) W' ∧ Keeps S W1 W') ∨ (e = .returned (.bool false) ∧ Jx (pre ++ [x]) W'))
    (hB : Blk W bp 117 #[.pointer (some ⟨s, 0, none⟩)]) (h0 : J [] W) :
    CallsIn Fence.wide (2 + 1) Tryd.prog 74 #[.func (.yield L) #[] #[], .pointer (some ⟨bp, 0, none⟩)] W fun e W' => (∃ v, e = .returned v) ∧
      ((∃ ys, ys = [0, 1, 2] ∧ J ys W') ∨ (∃ pre, pre.length ≤ 3 ∧ Jx pre W')) := by
  refine callsIn_of_wp Tryd.func74 rfl trivial ?_ rfl
  simp only [Tryd.ntmps74, List.size_toArray, List.length_cons, List.length_nil, Nat.reduceAdd, Nat.reduceSub, Array.replicate_succ, Array.replicate_zero, List.push_toArray, List.append_toArray, List.nil_append, List.cons_append]
  gi_wp2
  gi_loopw [4] (fun i wr => ∃ (k : Int) (pre : List (Fin 3)), i = .int .i64 k ∧ Blk wr bp 117 #[.pointer (some ⟨s, 0, none⟩)] ∧ J pre wr ∧ (k = 0 ∧ pre = [] ∨ k = 1 ∧ pre = [0] ∨ k = 2 ∧ pre = [0, 1] ∨ k = 3 ∧ pre = [0, 1, 2])) (fun i _ => 3 - (intOf i).toNat)
  case atStart => exact ⟨0, [], rfl, hB, h0, .inl ⟨rfl, rfl⟩⟩
  case round =>
    clear hB h0
    obtain ⟨k, pre, rfl, hB, hJ, hk⟩ := hrel
    have c1 : wr.cell? ⟨bp, 0, none⟩ = some (.pointer (some ⟨s, 0, none⟩)) := hB.cell 0
    rcases hk with ⟨rfl, rfl⟩ | ⟨rfl, rfl⟩ | ⟨rfl, rfl⟩ | ⟨rfl, rfl⟩
    · obtain ⟨fn, tmps, assign, body, hy, hR⟩ := hY [] 0 wr hJ (by simp)
      replace hy : (Instr.yield L #[.int .i64 0, .pointer (some ⟨s, 0, none⟩)]).run Tryd.prog wr = .ok (.round L fn tmps assign body) wr := hy
      gi_wp2
      refine hR.mono ?_
      rintro e W3 (⟨rfl, hJ3, hk3⟩ | ⟨rfl, hJx3⟩)
      · have hB3 : Blk W3 bp 117 #[.pointer (some ⟨s, 0, none⟩)] := (hk3.same _ hbp).trans hB
        clear hB c1
        gi_wp2
        exact ⟨⟨1, _, rfl, hB3, hJ3, .inr (.inl ⟨rfl, rfl⟩)⟩, by simp [intOf]⟩
      · gi_wp2
        refine bodyPost_ret (results_none rfl _ _ _) rfl ?_
        exact ⟨⟨_, rfl⟩, .inr ⟨_, by simp, hJx3⟩⟩
    · obtain ⟨fn, tmps, assign, body, hy, hR⟩ := hY [0] 1 wr hJ (by simp)
      replace hy : (Instr.yield L #[.int .i64 1, .pointer (some ⟨s, 2, none⟩)]).run Tryd.prog wr = .ok (.round L fn tmps assign body) wr := hy
      gi_wp2
      refine hR.mono ?_
      rintro e W3 (⟨rfl, hJ3, hk3⟩ | ⟨rfl, hJx3⟩)
      · have hB3 : Blk W3 bp 117 #[.pointer (some ⟨s, 0, none⟩)] := (hk3.same _ hbp).trans hB
        clear hB c1
        gi_wp2
        exact ⟨⟨2, _, rfl, hB3, hJ3, .inr (.inr (.inl ⟨rfl, rfl⟩))⟩, by simp [intOf]⟩
      · gi_wp2
        refine bodyPost_ret (results_none rfl _ _ _) rfl ?_
        exact ⟨⟨_, rfl⟩, .inr ⟨_, by simp, hJx3⟩⟩
    · obtain ⟨fn, tmps, assign, body, hy, hR⟩ := hY [0, 1] 2 wr hJ (by simp)
      replace hy : (Instr.yield L #[.int .i64 2, .pointer (some ⟨s, 4, none⟩)]).run Tryd.prog wr = .ok (.round L fn tmps assign body) wr := hy
      gi_wp2
      refine hR.mono ?_
      rintro e W3 (⟨rfl, hJ3, hk3⟩ | ⟨rfl, hJx3⟩)
      · have hB3 : Blk W3 bp 117 #[.pointer (some ⟨s, 0, none⟩)] := (hk3.same _ hbp).trans hB
        clear hB c1
        gi_wp2
        exact ⟨⟨3, _, rfl, hB3, hJ3, .inr (.inr (.inr ⟨rfl, rfl⟩))⟩, by simp [intOf]⟩
      · gi_wp2
        refine bodyPost_ret (results_none rfl _ _ _) rfl ?_
        exact ⟨⟨_, rfl⟩, .inr ⟨_, by simp, hJx3⟩⟩
    · gi_wp2
      go_end0
      exact ⟨⟨_, rfl⟩, .inl ⟨_, rfl, hJ⟩⟩

theorem ciphers_stops (bp s : Nat) (S : Nat → Prop) (hbp : S bp) (w : World) (hB : Blk w bp 117 #[.pointer (some ⟨s, 0, none⟩)]) :
    SeqT (fun _ => False) (2 + 1) Tryd.prog 74 #[.pointer (some ⟨bp, 0, none⟩)] (cphE s) (Keeps S) (fun ys => ys = [0, 1, 2]) (fun pre => pre.length ≤ 3) 3 w := by
  intro L J Jx W hW _ _ hY h0
  exact ciphers_loop L bp s S hbp J Jx W hY (hB.below hW hB.lt) h0
end Go.Proofs.YtoeobcmmafncmaaDoor
