/- A function that both defers calls and ranges over functions: how it leaves. -/
import Derived.Test.YtmbopkcmbiommaaGreatDoorRac
import Derived.RangeFuncFrom
import Derived.RangeFuncBox
import Derived.RangeFuncLeaves
import Derived.Shelf.Abstract
import Derived.OwnWalkIn
import Derived.TacticsInMore
import Derived.LoopNIn
import Derived.LoopIn
import Derived.BigFrameIn
import Derived.Test.YtmbopkcmbiommaaGreatDoorRam
set_option maxRecDepth 1000000
set_option maxHeartbeats 16000000
namespace Go.Proofs.YtmbopkcmbiommaaGreatDoor
open Go.RowKit
def LeavesM (P : Program) (fn : Func) (tmps : Array Value) (R : Ending → World → Prop) : List Deferred → FrameMode → World → Prop
  | [], u, w => Leaves P fn tmps R [] u w
  | d :: ds, u, w => u ≠ .run ∧
      ((∃ r w', d.target = .collected r ∧ (Instr.takeDeferred r).run P w = .ok [] w' ∧ LeavesM P fn tmps R ds u w') ∨
       (∃ fv cap f args, d.target = .fn fv cap ∧ (invoke d.target d.args).run P w = .ok (.enter f args) w ∧
        CallsD P f args u w fun
          | .returned _, u', w' => LeavesM P fn tmps R ds (settle u') w'
          | .panicked chain, u', w' => LeavesM P fn tmps R ds (raised u' chain) w'
          | .outgrown, _, w' => R .outgrown w'))
theorem leavesM_steps {P : Program} {fn : Func} {tmps : Array Value} {R : Ending → World → Prop} : ∀ (ds : List Deferred) (u : FrameMode) (w : World) (fr : Frame)
    (cs : List Frame), fr.mode = u → fr.defers = ds → fr.tmps = tmps → P.funcs[fr.fn]? = some fn → fr.kind = .normal → LeavesM P fn tmps R ds u w →
    ∃ e w' fr', R e w' ∧ Comes P (lone fr cs w) (lone fr' cs w') e ∧ fr'.fn = fr.fn ∧ fr'.leaving P w' e := by
  intro ds
  induction ds with
  | nil => exact fun u w fr cs hu hd ht hf hk h => leaves_steps [] u w fr cs hu hd ht hf hk h
  | cons d ds ih =>
    intro u w fr cs hu hd ht hf hk h
    obtain ⟨hrun, h⟩ := h
    rcases h with ⟨r, w', htar, htake, hrest⟩ | ⟨fv, cap, f, args, htar, hinv, hcall⟩
    · have h1 := step_collected (cs := cs) (hu ▸ hrun) hd htar htake
      obtain ⟨e', w'', fr', hR', hs', hfn', hl'⟩ := ih u w' { fr with defers := [] ++ ds } cs hu rfl ht hf hk hrest
      exact ⟨e', w'', fr', hR', Comes.of_steps (.one h1) hs', hfn', hl'⟩
    · have h1 := step_defer (cs := cs) (hu ▸ hrun) hd htar hinv
      obtain ⟨e, u', w', frX, hR, hsteps, hkX, hgo⟩ := hcall { fr with defers := ds } cs hu
      cases e with
      | outgrown => exact ⟨.outgrown, w', fr, hR, Outgrown.of_steps (.one h1) hsteps, rfl, trivial⟩
      | returned v =>
        have h2 := step_going_returned (c := { { fr with defers := ds } with mode := u' }) (cs := cs) hkX hgo
        obtain ⟨e', w'', fr', hR', hs', hfn', hl'⟩ := ih (settle u') w' { { { fr with defers := ds } with mode := u' } with mode := settle u' } cs rfl rfl ht hf hk hR
        exact ⟨e', w'', fr', hR', Comes.of_steps (.head h1 (Steps.trans hsteps (.one h2))) hs', hfn', hl'⟩
      | panicked chain =>
        have h2 := step_going_panicked (c := { { fr with defers := ds } with mode := u' }) (cs := cs) hgo
        obtain ⟨e', w'', fr', hR', hs', hfn', hl'⟩ := ih (raised u' chain) w' { { { fr with defers := ds } with mode := u' } with mode := raised u' chain } cs rfl rfl ht hf hk hR
        exact ⟨e', w'', fr', hR', Comes.of_steps (.head h1 (Steps.trans hsteps (.one h2))) hs', hfn', hl'⟩
def bodyPostDM (P : Program) (fn : Func) (R : Ending → World → Prop) : Exit → Act → World → Prop
  | .normal, a, w | .ret, a, w => LeavesM P fn a.tmps R a.defers .returning w
  | .panic chain, a, w => LeavesM P fn a.tmps R a.defers (.panicking chain) w
  | .outgrown, _, w => R .outgrown w
  | _, _, _ => False
theorem calls_of_wp_dm {P : Program} {f : FuncId} {fn : Func} {c : Code} {args : Array Value} {w : World} {R : Ending → World → Prop}
    (hf : P.funcs[f]? = some fn) (hb : fn.body = some c)
    (h : c.wp P (bodyPostDM P fn R) { tmps := args ++ Array.replicate (fn.ntmps - args.size) undef, defers := [] } w) : Calls P f args w R := by
  intro cs
  let b : Frame := { (default : Frame) with fn := f, kind := .normal }
  have henter : Frame.enter P f args .normal =
      b.at { tmps := args ++ Array.replicate (fn.ntmps - args.size) undef, defers := [] } [.code c] := by
    simp [Frame.enter, Frame.at, hf, hb, b]
  obtain ⟨e, a', w', hq, harr⟩ := h b [] cs
  rw [← henter] at harr
  cases e with
  | normal =>
    obtain ⟨e', w'', fr', hR, hs, hfn, hl⟩ := leavesM_steps a'.defers .returning w' { b.at a' [] with mode := .returning } cs rfl rfl rfl hf rfl hq
    exact ⟨e', w'', fr', hR, Comes.of_steps (Steps.trans harr (.one step_end)) hs, hfn, hl⟩
  | ret =>
    obtain ⟨todo, hs₀⟩ := harr
    obtain ⟨e', w'', fr', hR, hs, hfn, hl⟩ := leavesM_steps a'.defers .returning w' { b.at a' todo with mode := .returning } cs rfl rfl rfl hf rfl hq
    exact ⟨e', w'', fr', hR, Comes.of_steps hs₀ hs, hfn, hl⟩
  | panic chain =>
    obtain ⟨todo, hs₀⟩ := harr
    obtain ⟨e', w'', fr', hR, hs, hfn, hl⟩ := leavesM_steps a'.defers (.panicking chain) w' { b.at a' todo with mode := .panicking chain } cs rfl rfl rfl hf rfl hq
    exact ⟨e', w'', fr', hR, Comes.of_steps hs₀ hs, hfn, hl⟩
  | exit id => exact hq.elim
  | goto l => exact hq.elim
  | outgrown => exact ⟨.outgrown, w', b, hq, harr.resolve_left (by simp [b]), rfl, trivial⟩
structure Keeps (S : Nat → Prop) (A B : World) : Prop where
  size : A.heap.size ≤ B.heap.size
  same : ∀ k, S k → B.heap[k]? = A.heap[k]?
section
variable {S : Nat → Prop} {A B C : World}
theorem Keeps.refl (S : Nat → Prop) (A : World) : Keeps S A A := ⟨Nat.le_refl _, fun _ _ => rfl⟩
theorem Keeps.trans (h : Keeps S A B) (k : Keeps S B C) : Keeps S A C := ⟨Nat.le_trans h.size k.size, fun i hi => (k.same i hi).trans (h.same i hi)⟩
theorem Keeps.cell (h : Keeps S A B) {p : Addr} (hp : S p.block) : B.cell? p = A.cell? p := World.cell?_of_block (w := A) (h.same _ hp)
theorem Keeps.of_below {n : Nat} (h : Below n A B) (hS : ∀ k, S k → k < n) : Keeps S A B := ⟨h.size, fun k hk => h.block k (hS k hk)⟩
theorem Keeps.setCell (h : Keeps S A B) {p : Addr} (hp : ¬ S p.block) (u : Value) : Keeps S A (B.setCell p u) :=
  h.trans ⟨by simp [World.setCell], fun k hk => Below.heap_setCell _ _ _ _ (fun e => by subst e; exact hp hk)⟩
theorem Keeps.alloc (h : Keeps S A B) (hS : ∀ k, S k → k < B.heap.size) (o : Obj) : Keeps S A (B.alloc o) :=
  h.trans ⟨by simp, fun k hk => Below.heap_alloc _ _ _ (hS k hk)⟩
theorem Keeps.put {w : World} (hS : ∀ k, S k → k < w.heap.size) (W : World) (l : Nat) (o o' : Obj) (hl : w.heap.size ≤ l) (_ : W.heap[l]? = some o) (_ : o.isCells = false) (_ : o.isWalk = false) : Keeps S W (W.putObj l o') :=
  ⟨by simp, fun k hk => World.putObj_heap_other (by have := hS k hk; omega)⟩
theorem Rd.keeps {B' sz n : Nat} {a : Option Addr} {xs : List Value} (h : Rd A B' sz a n xs) (hk : Keeps S A B) (hS : ∀ k, k < B' → S k) : Rd B B' sz a n xs := h.keep fun _ hp => hk.cell (hS _ hp)
end
theorem Blk.kept {W W' : World} {g : Nat} {t : TypeId} {cs : Array Value} {row : Option Nat} {B : Nat} (h : Blk W g t cs) (hg : W.grownBy W' row) (hr : ∀ r, row = some r → B ≤ r ∧ ∃ o : Obj, W.heap[r]? = some o ∧ o.isCells = false) : Blk W' g t cs :=
  (grownBy_keeps_cells hg (fun r e => (hr r e).2) h rfl).trans h
theorem Blk.put {W : World} {g D : Nat} {t : TypeId} {cs : Array Value} (h : Blk W g t cs) {o o' : Obj} (hD : W.heap[D]? = some o) (ho : o.isCells = false) : Blk (W.putObj D o') g t cs :=
  (World.putObj_heap_other (by intro e; subst e; unfold Blk at h; rw [h] at hD; cases hD; cases ho)).trans h
theorem leavesM_mark {P : Program} {fn : Func} {tmps : Array Value} {R : Ending → World → Prop} {D : Nat} {ds : List Deferred} {u : FrameMode} {w : World}
    (hu : u ≠ .run) (hD : w.heap[D]? = some (.deferred (some []))) (h : LeavesM P fn tmps R ds u (w.putObj D (.deferred none))) :
    LeavesM P fn tmps R ({ target := .collected D, args := #[] } :: ds) u w :=
  ⟨hu, .inl ⟨D, _, rfl, run_takeDeferred hD, h⟩⟩
theorem assert_errno (e : Int) (w : World) : (Instr.typeAssert (.iface 38 (.int .i64 e)) 20 38 true).run Tryz.prog w = .ok (.tuple #[.int .i64 e, .bool true]) w := by kernel_rfl
theorem caught_panic (p : Addr) (e old : Int) (older : List PanicEntry) (w : World) (hc : w.cell? p = some (.int .i64 old)) (hz : w.frozen? p = false) :
    CallsD Tryz.prog 37 #[.pointer (some p)] (.panicking ({ v := .iface 38 (.int .i64 e), recovered := false } :: older)) w fun r u' w' =>
      r = .returned (.tuple #[]) ∧ u' = .panicking ({ v := .iface 38 (.int .i64 e), recovered := true } :: older) ∧ w' = w.setCell p (.int .i64 e) := by
  have hta := assert_errno e
  refine callsD_of_wpS Tryz.func37 rfl fun c₀ cs hu => ?_
  simp only [Tryz.ntmps37, List.size_toArray, List.length_cons, List.length_nil, Nat.reduceAdd, Nat.reduceSub, Array.replicate_succ,
     Array.replicate_zero, List.push_toArray, List.append_toArray, List.nil_append, List.cons_append]
  apply wpS_seq
  apply wpS_region
  simp [wpOpsS, go_sem, recoverD, hu, Exit.thenS]
  refine wpS_of_wp ?_
  go_wp2
  exact ⟨rfl, _, rfl, .tuple #[], by simp [results, Tryz.results37], rfl, rfl, rfl⟩
theorem caught_idle (p : Addr) (w : World) :
    CallsD Tryz.prog 37 #[.pointer (some p)] .returning w fun r u' w' =>
      r = .returned (.tuple #[]) ∧ u' = .returning ∧ w' = w := by
  refine callsD_of_wpS Tryz.func37 rfl fun c₀ cs hu => ?_
  simp only [Tryz.ntmps37, List.size_toArray, List.length_cons, List.length_nil, Nat.reduceAdd, Nat.reduceSub, Array.replicate_succ,
     Array.replicate_zero, List.push_toArray, List.append_toArray, List.nil_append, List.cons_append]
  apply wpS_seq
  apply wpS_region
  simp [wpOpsS, go_sem, recoverD, hu, Exit.thenS]
  refine wpS_of_wp ?_
  go_wp2
  exact ⟨rfl, .returning, by cases c₀; simp_all, .tuple #[], by simp [results, Tryz.results37], rfl, rfl, rfl⟩
theorem door_idle {fn : Func} {tmps : Array Value} {R : Ending → World → Prop} (p : Addr) (w : World) (v : Value)
    (hr : (results fn tmps).run Tryz.prog w = .ok v w) (h : R (.returned v) w) :
    Leaves Tryz.prog fn tmps R [{ target := .fn (.func 37) #[], args := #[.pointer (some p)] }] .returning w := by
  refine leaves_cons (f := 37) (args := #[.pointer (some p)]) (by simp) (by simp [go_sem]) ?_
  refine (caught_idle p w).mono ?_
  rintro r u' w' ⟨rfl, rfl, rfl⟩
  exact ⟨v, hr, h⟩
theorem door_panic {fn : Func} {tmps : Array Value} {R : Ending → World → Prop} (p : Addr) (e old : Int) (w : World) (v : Value) (hc : w.cell? p = some (.int .i64 old)) (hz : w.frozen? p = false)
    (hr : (results fn tmps).run Tryz.prog (w.setCell p (.int .i64 e)) = .ok v (w.setCell p (.int .i64 e))) (h : R (.returned v) (w.setCell p (.int .i64 e))) :
    Leaves Tryz.prog fn tmps R [{ target := .fn (.func 37) #[], args := #[.pointer (some p)] }] (.panicking [{ v := .iface 38 (.int .i64 e), recovered := false }]) w := by
  refine leaves_cons (f := 37) (args := #[.pointer (some p)]) (by simp) (by simp [go_sem]) ?_
  refine (caught_panic p e old [] w hc hz).mono ?_
  rintro r u' w' ⟨rfl, rfl, rfl⟩
  exact ⟨v, hr, h⟩
def PanE (e : Int) : Ending := .panicked [{ v := .iface 38 (.int .i64 e), recovered := false }]
def MustPost (e : Int) (w : World) (r : Ending) (w' : World) : Prop :=
  w = w' ∧ ((e = 0 ∧ r = .returned (.tuple #[])) ∨ (e ≠ 0 ∧ r = .panicked [{ v := .iface 38 (.int .i64 e), recovered := false }]))
theorem must_any (e : Int) (w : World) : Calls Tryz.prog 62 #[.int .i64 e] w (MustPost e w) := by
  by_cases h : e = 0
  · subst h
    go_enter Tryz.func62, Tryz.ntmps62
    go_wp2
    exact bodyPost_ret (results_none rfl _ _ _) rfl ⟨rfl, .inl ⟨rfl, rfl⟩⟩
  · have hb : (e != 0) = true := by simpa using h
    go_enter Tryz.func62, Tryz.ntmps62
    go_wp2
    exact ⟨rfl, rfl, .inr ⟨h, rfl⟩⟩
theorem need_any (b : Bool) (e : Int) (he : e ≠ 0) (w : World) : Calls Tryz.prog 65 #[.bool b, .int .i64 e] w (MustPost (if b = true then 0 else e) w) := by
  cases b
  · go_enter Tryz.func65, Tryz.ntmps65
    go_wp2
    exact ⟨rfl, rfl, .inr ⟨he, rfl⟩⟩
  · go_enter Tryz.func65, Tryz.ntmps65
    go_wp2
    exact bodyPost_ret (results_none rfl _ _ _) rfl ⟨rfl, .inl ⟨rfl, rfl⟩⟩
theorem secret_not (n : Int) (W : World) : Calls Tryz.prog 70 #[.int .i64 n] W (Same (.bool (!secretB n)) W) := by
  have e : (!secretB n) = (decide (n < 1) || decide (1073741789 ≤ n)) := by
    unfold secretB
    rw [Bool.eq_iff_iff]
    simp only [Bool.not_eq_true', decide_eq_false_iff_not, Bool.or_eq_true, decide_eq_true_iff]
    omega
  rw [e]
  cases h1 : decide (n < 1) <;> cases h2 : decide (1073741789 ≤ n)
  all_goals
    go_enter Tryz.func70, Tryz.ntmps70
    go_wp2_with fail
    go_ret
    exact ⟨by simp_all, rfl⟩
def cmpV (a b : Int) : Int := if a < b then -1 else if b < a then 1 else 0
theorem cmp_nan (n : Int) (W : World) : Calls Tryz.prog 119 #[.int .i64 n] W (Same (.bool false) W) := by
  have hne : (n != n) = false := by simp
  go_enter Tryz.func119, Tryz.ntmps119
  go_wp2_with fail
  go_ret
  exact ⟨by simp, rfl⟩
theorem cmp_compare (a b : Int) (W : World) : Calls Tryz.prog 73 #[.int .i64 a, .int .i64 b] W (Same (.int .i64 (cmpV a b)) W) := by
  have q1 := Lib.hid (cmp_nan a W)
  have q2 := Lib.hid (cmp_nan b W)
  unfold cmpV
  by_cases h1 : a < b
  · rw [if_pos h1]
    go_enter Tryz.func73, Tryz.ntmps73
    go_wp2_with fail
    (with_reducible refine q1.out.mono ?_)
    rintro e w3 ⟨rfl, rfl⟩
    go_wp2_with fail
    (with_reducible refine q2.out.mono ?_)
    rintro e w3 ⟨rfl, rfl⟩
    go_wp2_with fail
    go_ret
    exact ⟨rfl, rfl⟩
  rw [if_neg h1]
  by_cases h2 : b < a
  · rw [if_pos h2]
    go_enter Tryz.func73, Tryz.ntmps73
    go_wp2_with fail
    (with_reducible refine q1.out.mono ?_)
    rintro e w3 ⟨rfl, rfl⟩
    go_wp2_with fail
    (with_reducible refine q2.out.mono ?_)
    rintro e w3 ⟨rfl, rfl⟩
    go_wp2_with fail
    go_ret
    exact ⟨rfl, rfl⟩
  rw [if_neg h2]
  go_enter Tryz.func73, Tryz.ntmps73
  go_wp2_with fail
  (with_reducible refine q1.out.mono ?_)
  rintro e w3 ⟨rfl, rfl⟩
  go_wp2_with fail
  (with_reducible refine q2.out.mono ?_)
  rintro e w3 ⟨rfl, rfl⟩
  go_wp2_with fail
  go_ret
  exact ⟨rfl, rfl⟩
theorem cmp_or (g : Nat) (a b : Int) (W : World) (h : Blk W g 3 #[.int .i64 a, .int .i64 b]) : Calls Tryz.prog 72 #[.slice (some ⟨g, 0, none⟩) 2 2] W (Same (.int .i64 (if a = 0 then b else a)) W) := by
  have c0 := h.cell 0
  have c1 := h.cell 1
  simp only [List.getElem?_toArray, List.getElem?_cons_zero, List.getElem?_cons_succ] at c0 c1
  clear h
  obtain ⟨v, hv⟩ : ∃ v, Hid ((if a = 0 then b else a) = v) := ⟨_, Lib.hid rfl⟩
  rw [hv.out]
  go_enter Tryz.func72, Tryz.ntmps72
  go_wp2_with fail
  go_loopw [8] (fun i wr => W = wr ∧ (i = .int .i64 0 ∨ i = .int .i64 1 ∧ Hid (a = 0) ∨ i = .int .i64 2 ∧ Hid (a = 0 ∧ b = 0))) (fun i _ => 2 - (intOf i).toNat)
  case atStart => exact ⟨rfl, .inl rfl⟩
  case round =>
    obtain ⟨rfl, rfl | ⟨rfl, ha⟩ | ⟨rfl, ha⟩⟩ := hrel
    · by_cases h : a = 0
      · have hn : (a != 0) = false := by simp [h]
        have hh := Lib.hid h
        clear h
        go_wp2_with fail
        exact ⟨⟨trivial, .inr (.inl ⟨rfl, hh⟩)⟩, by simp [intOf]⟩
      · have hn : (a != 0) = true := by simp [h]
        have hr : Hid (v = a) := Lib.hid (by rw [← hv.out, if_neg h])
        clear h
        go_wp2_with fail
        go_ret
        exact ⟨ret_int hr.out.symm, rfl⟩
    · have hr1 : Hid (v = b) := Lib.hid (by rw [← hv.out, if_pos ha.out])
      by_cases h : b = 0
      · have hn : (b != 0) = false := by simp [h]
        have hh := Lib.hid (And.intro ha.out h)
        clear h hr1
        go_wp2_with fail
        exact ⟨⟨trivial, .inr (.inr ⟨rfl, hh⟩)⟩, by simp [intOf]⟩
      · have hn : (b != 0) = true := by simp [h]
        clear h
        go_wp2_with fail
        go_ret
        exact ⟨ret_int hr1.out.symm, rfl⟩
    · have hr : Hid (v = 0) := Lib.hid (by rw [← hv.out, if_pos ha.out.1, ha.out.2])
      go_wp2_with fail
      go_ret
      exact ⟨ret_int hr.out.symm, rfl⟩
end Go.Proofs.YtmbopkcmbiommaaGreatDoor
