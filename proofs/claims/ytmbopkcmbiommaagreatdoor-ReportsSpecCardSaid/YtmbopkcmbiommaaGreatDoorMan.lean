/-
  registry.Check; walked.
-/
import Derived.Test.YtmbopkcmbiommaaGreatDoorMam
import Derived.Test.YtmbopkcmbiommaaGreatDoorMac
import Derived.RangeFuncFrom
import Derived.RangeFuncBox
import Derived.RangeFuncLeaves
import Derived.Shelf.Abstract
import Derived.OwnWalkIn
import Derived.TacticsInMore
import Derived.LoopNIn
import Derived.LoopIn
import Derived.BigFrameIn
namespace Go.Proofs.YtmbopkcmbiommaaGreatDoor
open Go Go.RowKit

set_option maxRecDepth 100000 in
set_option maxHeartbeats 4000000 in
theorem registry_check (A : Option Addr) (c : Nat) (l : List Ent) (W : World) (hA : Rd W W.heap.size 8 A l.length (l.flatMap Ent.cl)) (hn : l.length ≤ 1000000) (hi : ∀ x ∈ l, (Lit.int .i64 x.kind).wf = true) :
    Calls Tryz.prog 69 #[.slice A l.length c] W (Ret (.int .i64 (entsE l)) W) := by
  obtain ⟨v, hv⟩ : ∃ v, Hid (entsE l = v) := ⟨_, Lib.hid rfl⟩
  rw [hv.out]
  go_enter Tryz.func69, Tryz.ntmps69
  by_cases l1 : 1024 < l.length
  · have hv2 : Hid (v = 2) := Lib.hid (by rw [← hv.out]; unfold entsE; rw [if_pos l1])
    have e1 : (1024 : Int) < (l.length : Int) := by omega
    clear l1
    go_wp2_with fail
    go_ret
    exact ⟨ret_int hv2.out.symm, bRefl W⟩
  have e1 : ¬ (1024 : Int) < (l.length : Int) := by omega
  have hv2 : Hid ((if entsB (-1) l = true then 0 else 330) = v) := Lib.hid (by rw [← hv.out]; unfold entsE; rw [if_neg l1])
  clear l1 hv
  go_wp2_with fail
  clear e1
  go_loopw [3, 12] (fun j i wr => ∃ (k : Nat) (b : Int), k ≤ l.length ∧ i = .int .i64 k ∧ j = .int .i64 b ∧ Below W.heap.size W wr ∧ Hid (entsB (-1) l = entsB b (l.drop k))) (fun _ i _ => l.length - (intOf i).toNat)
  case atStart => exact ⟨0, -1, Nat.zero_le _, rfl, rfl, bRefl W, Lib.hid rfl⟩
  case round =>
    obtain ⟨k, b0, hkn, rfl, rfl, hb, hp⟩ := hrel
    by_cases hlt : k < l.length
    · obtain ⟨x, hx⟩ : ∃ x, Hid (l[k]? = some x) := ⟨_, Lib.hid (List.getElem?_eq_getElem hlt)⟩
      have hxi := hi x (List.mem_of_getElem? hx.out)
      obtain ⟨b, off, rfl, hbb, hc⟩ := Cl_at (f := Ent.cl) (fun _ _ => rfl) (hA.below hb) hlt hx.out
      have c0 := hc 0 (by omega)
      have c1 := hc 1 (by omega)
      have c2 := hc 2 (by omega)
      have c3 := hc 3 (by omega)
      have c4 := hc 4 (by omega)
      have c5 := hc 5 (by omega)
      have c6 := hc 6 (by omega)
      have c7 := hc 7 (by omega)
      simp only [Ent.cl, List.getElem?_cons_zero, List.getElem?_cons_succ, Nat.add_zero] at c0 c1 c2 c3 c4 c5 c6 c7
      have i0 : (0 : Int) ≤ (k : Int) := by omega
      have i1 : (k : Int) < (l.length : Int) := by omega
      have hb2 := bAl hb (.cells x.cl.toArray 67)
      have BX := Blk.new wr 67 x.cl.toArray _ rfl
      have q := reg_check x (wr.alloc (.cells x.cl.toArray 67)) hxi
      have hdr : Hid (entsB (-1) l = ((x.right && decide (b0 < x.no)) && entsB x.no (l.drop (k + 1)))) := Lib.hid (by
        obtain ⟨e1, e2⟩ := List.getElem?_eq_some_iff.1 hx.out
        rw [hp.out, List.drop_eq_getElem_cons e1, e2]; rfl)
      generalize x.right = ok at q hdr
      have d0 := BX.cell 0
      have d1 := BX.cell 1
      have d2 := BX.cell 2
      have d3 := BX.cell 3
      have d4 := BX.cell 4
      have d5 := BX.cell 5
      have d6 := BX.cell 6
      have d7 := BX.cell 7
      unfold Ent.cl at q hb2 d0 d1 d2 d3 d4 d5 d6 d7
      simp only [List.getElem?_toArray, List.getElem?_cons_zero, List.getElem?_cons_succ] at d0 d1 d2 d3 d4 d5 d6 d7
      unfold Ent.cl at BX
      clear hc hp hxi
      cases ok
      · have hr : Hid (v = 330) := Lib.hid (by rw [← hv2.out, hdr.out]; rfl)
        clear hdr
        go_wp2_with fail
        (with_reducible refine q.mono ?_)
        rintro e w3 ⟨rfl, b3⟩
        replace hb := bCall hb2 b3
        clear q c0 c1 c2 c3 c4 c5 c6 c7 d0 d1 d2 d3 d4 d5 d6 d7
        go_wp2_with fail
        go_ret
        exact ⟨ret_int hr.out.symm, hb⟩
      by_cases hlo : b0 < x.no
      · have hp' : Hid (entsB (-1) l = entsB x.no (l.drop (k + 1))) := Lib.hid (by rw [hdr.out, decide_eq_true hlo]; rfl)
        have hng : ¬ x.no ≤ b0 := by omega
        clear hdr hlo
        go_wp2_with fail
        (with_reducible refine q.mono ?_)
        rintro e w3 ⟨rfl, b3⟩
        replace hb := bCall hb2 b3
        replace BX := BX.below b3 BX.lt
        clear q c0 c1 c2 c3 c4 c5 c6 c7 d0 d1 d2 d3 d4 d5 d6 d7
        have d0 := BX.cell 0
        go_wp2_with fail
        exact ⟨⟨k + 1, x.no, by omega, by go_num, rfl, hb, hp'⟩, by simp [intOf]; omega⟩
      · have hr : Hid (v = 330) := Lib.hid (by rw [← hv2.out, hdr.out, decide_eq_false hlo]; rfl)
        have hng : x.no ≤ b0 := by omega
        clear hdr hlo
        go_wp2_with fail
        (with_reducible refine q.mono ?_)
        rintro e w3 ⟨rfl, b3⟩
        replace hb := bCall hb2 b3
        replace BX := BX.below b3 BX.lt
        clear q c0 c1 c2 c3 c4 c5 c6 c7 d0 d1 d2 d3 d4 d5 d6 d7
        have d0 := BX.cell 0
        go_wp2_with fail
        go_ret
        exact ⟨ret_int hr.out.symm, hb⟩
    · have hr : Hid (v = 0) := Lib.hid (by rw [← hv2.out, hp.out, List.drop_of_length_le (by omega)]; rfl)
      clear hp hv2
      go_wp2_with fail
      go_ret
      exact ⟨ret_int hr.out.symm, hb⟩
end Go.Proofs.YtmbopkcmbiommaaGreatDoor

/-
  A function that both defers calls and ranges over functions: how it leaves.
-/
namespace Go.Proofs.YtmbopkcmbiommaaGreatDoor
open Go.RowKit

/-- How a frame leaves whose deferred calls are those of functions, with marks of loops among them. -/
def LeavesM (P : Program) (fn : Func) (tmps : Array Value) (R : Ending → World → Prop) : List Deferred → FrameMode → World → Prop
  | [], u, w => Leaves P fn tmps R [] u w
  | d :: ds, u, w => u ≠ .run ∧
      ((∃ r w', d.target = .collected r ∧ (Instr.takeDeferred r).run P w = .ok [] w' ∧ LeavesM P fn tmps R ds u w') ∨
       (∃ fv cap f args, d.target = .fn fv cap ∧ (invoke d.target d.args).run P w = .ok (.enter f args) w ∧
        CallsD P f args u w fun
          | .returned _, u', w' => LeavesM P fn tmps R ds (settle u') w'
          | .panicked chain, u', w' => LeavesM P fn tmps R ds (raised u' chain) w'
          | .outgrown, _, w' => R .outgrown w'))

theorem leavesM_steps {P : Program} {fn : Func} {tmps : Array Value} {R : Ending → World → Prop} : ∀ (ds : List Deferred) (u : FrameMode) (w : World) (fr : Frame)
    (cs : List Frame), fr.mode = u → fr.defers = ds → fr.tmps = tmps → P.funcs[fr.fn]? = some fn → fr.kind = .normal → LeavesM P fn tmps R ds u w →
    ∃ e w' fr', R e w' ∧ Comes P (lone fr cs w) (lone fr' cs w') e ∧ fr'.fn = fr.fn ∧ fr'.leaving P w' e := by
  intro ds
  induction ds with
  | nil => exact fun u w fr cs hu hd ht hf hk h => leaves_steps [] u w fr cs hu hd ht hf hk h
  | cons d ds ih =>
    intro u w fr cs hu hd ht hf hk h
    obtain ⟨hrun, h⟩ := h
    rcases h with ⟨r, w', htar, htake, hrest⟩ | ⟨fv, cap, f, args, htar, hinv, hcall⟩
    · have h1 := step_collected (cs := cs) (hu ▸ hrun) hd htar htake
      obtain ⟨e', w'', fr', hR', hs', hfn', hl'⟩ := ih u w' { fr with defers := [] ++ ds } cs hu rfl ht hf hk hrest
      exact ⟨e', w'', fr', hR', Comes.of_steps (.one h1) hs', hfn', hl'⟩
    · have h1 := step_defer (cs := cs) (hu ▸ hrun) hd htar hinv
      obtain ⟨e, u', w', frX, hR, hsteps, hkX, hgo⟩ := hcall { fr with defers := ds } cs hu
      cases e with
      | outgrown => exact ⟨.outgrown, w', fr, hR, Outgrown.of_steps (.one h1) hsteps, rfl, trivial⟩
      | returned v =>
        have h2 := step_going_returned (c := { { fr with defers := ds } with mode := u' }) (cs := cs) hkX hgo
        obtain ⟨e', w'', fr', hR', hs', hfn', hl'⟩ := ih (settle u') w' { { { fr with defers := ds } with mode := u' } with mode := settle u' } cs rfl rfl ht hf hk hR
        exact ⟨e', w'', fr', hR', Comes.of_steps (.head h1 (Steps.trans hsteps (.one h2))) hs', hfn', hl'⟩
      | panicked chain =>
        have h2 := step_going_panicked (c := { { fr with defers := ds } with mode := u' }) (cs := cs) hgo
        obtain ⟨e', w'', fr', hR', hs', hfn', hl'⟩ := ih (raised u' chain) w' { { { fr with defers := ds } with mode := u' } with mode := raised u' chain } cs rfl rfl ht hf hk hR
        exact ⟨e', w'', fr', hR', Comes.of_steps (.head h1 (Steps.trans hsteps (.one h2))) hs', hfn', hl'⟩

def bodyPostDM (P : Program) (fn : Func) (R : Ending → World → Prop) : Exit → Act → World → Prop
  | .normal, a, w | .ret, a, w => LeavesM P fn a.tmps R a.defers .returning w
  | .panic chain, a, w => LeavesM P fn a.tmps R a.defers (.panicking chain) w
  | .outgrown, _, w => R .outgrown w
  | _, _, _ => False

theorem calls_of_wp_dm {P : Program} {f : FuncId} {fn : Func} {c : Code} {args : Array Value} {w : World} {R : Ending → World → Prop}
    (hf : P.funcs[f]? = some fn) (hb : fn.body = some c)
    (h : c.wp P (bodyPostDM P fn R) { tmps := args ++ Array.replicate (fn.ntmps - args.size) undef, defers := [] } w) : Calls P f args w R := by
  intro cs
  let b : Frame := { (default : Frame) with fn := f, kind := .normal }
  have henter : Frame.enter P f args .normal =
      b.at { tmps := args ++ Array.replicate (fn.ntmps - args.size) undef, defers := [] } [.code c] := by
    simp [Frame.enter, Frame.at, hf, hb, b]
  obtain ⟨e, a', w', hq, harr⟩ := h b [] cs
  rw [← henter] at harr
  cases e with
  | normal =>
    obtain ⟨e', w'', fr', hR, hs, hfn, hl⟩ := leavesM_steps a'.defers .returning w' { b.at a' [] with mode := .returning } cs rfl rfl rfl hf rfl hq
    exact ⟨e', w'', fr', hR, Comes.of_steps (Steps.trans harr (.one step_end)) hs, hfn, hl⟩
  | ret =>
    obtain ⟨todo, hs₀⟩ := harr
    obtain ⟨e', w'', fr', hR, hs, hfn, hl⟩ := leavesM_steps a'.defers .returning w' { b.at a' todo with mode := .returning } cs rfl rfl rfl hf rfl hq
    exact ⟨e', w'', fr', hR, Comes.of_steps hs₀ hs, hfn, hl⟩
  | panic chain =>
    obtain ⟨todo, hs₀⟩ := harr
    obtain ⟨e', w'', fr', hR, hs, hfn, hl⟩ := leavesM_steps a'.defers (.panicking chain) w' { b.at a' todo with mode := .panicking chain } cs rfl rfl rfl hf rfl hq
    exact ⟨e', w'', fr', hR, Comes.of_steps hs₀ hs, hfn, hl⟩
  | exit id => exact hq.elim
  | goto l => exact hq.elim
  | outgrown => exact ⟨.outgrown, w', b, hq, harr.resolve_left (by simp [b]), rfl, trivial⟩

/-- The blocks of a set lie as they lay: what an iterator asks of the loop's body. -/
structure Keeps (S : Nat → Prop) (A B : World) : Prop where
  size : A.heap.size ≤ B.heap.size
  same : ∀ k, S k → B.heap[k]? = A.heap[k]?
section
variable {S : Nat → Prop} {A B C : World}
theorem Keeps.refl (S : Nat → Prop) (A : World) : Keeps S A A := ⟨Nat.le_refl _, fun _ _ => rfl⟩
theorem Keeps.trans (h : Keeps S A B) (k : Keeps S B C) : Keeps S A C := ⟨Nat.le_trans h.size k.size, fun i hi => (k.same i hi).trans (h.same i hi)⟩
theorem Keeps.cell (h : Keeps S A B) {p : Addr} (hp : S p.block) : B.cell? p = A.cell? p := World.cell?_of_block (w := A) (h.same _ hp)
theorem Keeps.of_below {n : Nat} (h : Below n A B) (hS : ∀ k, S k → k < n) : Keeps S A B := ⟨h.size, fun k hk => h.block k (hS k hk)⟩
theorem Keeps.setCell (h : Keeps S A B) {p : Addr} (hp : ¬ S p.block) (u : Value) : Keeps S A (B.setCell p u) :=
  h.trans ⟨by simp [World.setCell], fun k hk => Below.heap_setCell _ _ _ _ (fun e => by subst e; exact hp hk)⟩
theorem Keeps.alloc (h : Keeps S A B) (hS : ∀ k, S k → k < B.heap.size) (o : Obj) : Keeps S A (B.alloc o) :=
  h.trans ⟨by simp, fun k hk => Below.heap_alloc _ _ _ (hS k hk)⟩
theorem Keeps.put {w : World} (hS : ∀ k, S k → k < w.heap.size) (W : World) (l : Nat) (o o' : Obj) (hl : w.heap.size ≤ l) (_ : W.heap[l]? = some o) (_ : o.isCells = false) (_ : o.isWalk = false) : Keeps S W (W.putObj l o') :=
  ⟨by simp, fun k hk => World.putObj_heap_other (by have := hS k hk; omega)⟩
theorem Rd.keeps {B' sz n : Nat} {a : Option Addr} {xs : List Value} (h : Rd A B' sz a n xs) (hk : Keeps S A B) (hS : ∀ k, k < B' → S k) : Rd B B' sz a n xs := h.keep fun _ hp => hk.cell (hS _ hp)
end

/-- A block of cells is the caller's own. -/
theorem Blk.kept {W W' : World} {g : Nat} {t : TypeId} {cs : Array Value} {row : Option Nat} {B : Nat} (h : Blk W g t cs) (hg : W.grownBy W' row) (hr : ∀ r, row = some r → B ≤ r ∧ ∃ o : Obj, W.heap[r]? = some o ∧ o.isCells = false) : Blk W' g t cs :=
  (grownBy_keeps_cells hg (fun r e => (hr r e).2) h rfl).trans h
theorem Blk.put {W : World} {g D : Nat} {t : TypeId} {cs : Array Value} (h : Blk W g t cs) {o o' : Obj} (hD : W.heap[D]? = some o) (ho : o.isCells = false) : Blk (W.putObj D o') g t cs :=
  (World.putObj_heap_other (by intro e; subst e; unfold Blk at h; rw [h] at hD; cases hD; cases ho)).trans h
theorem bGrown {a W W' : World} {row : Option Nat} {B : Nat} (h : Below a.heap.size a W) (hg : W.grownBy W' row) (hB : a.heap.size ≤ B) (hr : ∀ r, row = some r → B ≤ r ∧ ∃ o : Obj, W.heap[r]? = some o ∧ o.isCells = false) : Below a.heap.size a W' :=
  h.grown hg h.size (fun k e => Nat.le_trans hB (hr k e).1)

/-- A mark is passed. -/
theorem leavesM_mark {P : Program} {fn : Func} {tmps : Array Value} {R : Ending → World → Prop} {D : Nat} {ds : List Deferred} {u : FrameMode} {w : World}
    (hu : u ≠ .run) (hD : w.heap[D]? = some (.deferred (some []))) (h : LeavesM P fn tmps R ds u (w.putObj D (.deferred none))) :
    LeavesM P fn tmps R ({ target := .collected D, args := #[] } :: ds) u w :=
  ⟨hu, .inl ⟨D, _, rfl, run_takeDeferred hD, h⟩⟩
/-- Without marks. -/
theorem leavesM_of {P : Program} {fn : Func} {tmps : Array Value} {R : Ending → World → Prop} : ∀ (ds : List Deferred) (u : FrameMode) (w : World), Leaves P fn tmps R ds u w → LeavesM P fn tmps R ds u w
  | [], _, _, h => h
  | _ :: ds, _, _, ⟨hu, fv, cap, f, args, ht, hi, h⟩ => ⟨hu, .inr ⟨fv, cap, f, args, ht, hi, h.mono fun e u' w' hq => by
      cases e with
      | returned v => exact leavesM_of ds _ _ hq
      | panicked chain => exact leavesM_of ds _ _ hq
      | outgrown => exact hq⟩⟩
/-- A range over an iterator that has its contract; the loop's variables may lie in memory: 'Im' says what holds when they have been assigned. -/
theorem wp_rangeFunc {P : Program} {α : Type} {g : Operand} {ps : Array Tmp} {assign body : Code} {Q : Exit → Act → World → Prop} {a : Act} {w : World} (n : Nat)
    {gf : Nat} {lb : Array Value} (hg : a.eval g = .func (.func gf) #[] lb) (eg : ∀ args w, (callFunc gf args).run P w = .ok (.enter gf args) w)
    {encs : α → Array Value} {Kp : World → World → Prop} {S Sp : List α → Prop} {N : Nat} {w0 : World} (hseq : SeqStopsK Fence.wide (n + 1) P gf lb encs Kp S Sp N w0)
    (hKt : ∀ {A B C : World}, Kp A B → Kp B C → Kp A C) (hKb : ∀ (W : World) (l : Nat) (o o' : Obj), w.heap.size ≤ l → W.heap[l]? = some o → o.isCells = false → o.isWalk = false → Kp W (W.putObj l o')) (hb0 : Below w0.heap.size w0 w) (hps : ∀ x, (encs x).size = ps.size)
    (I : List α → World → Prop) (Im : α → Act → List α → World → Prop) (Ix : Code → List α → World → Prop) (hI : OwnFrom w.heap.size I) (hIm : ∀ x a, OwnFrom w.heap.size (Im x a)) (hIx : ∀ c, OwnFrom w.heap.size (Ix c)) (h0 : I [] w)
    (hassign : ∀ (l : Nat) (pre : List α) (x : α) (W : World), I pre W → pre.length < N →
      assign.wpIn (Fence.wide.inRound l) n P (Exit.then (fun a₁ W₁ => KeepsOthers W W₁ ∧ Kp W W₁ ∧ Im x a₁ pre W₁) (fun _ _ _ => False)) { tmps := (ps.zip (encs x)).foldl (fun t (p, v) => t.setIfInBounds p v) a.tmps, defers := [] } W)
    (hbody : ∀ (l : Nat) (pre : List α) (x : α) (a₁ : Act) (W : World), Im x a₁ pre W → pre.length < N → body.wpIn (Fence.wide.inRound l) n P (ownPostK Kp I Ix (pre ++ [x]) W) a₁ W)
    (hdone : ∀ (D : Nat) (xs : List α) (W : World), w.heap.size ≤ D → S xs → I xs W → W.heap[D]? = some (.deferred (some [])) → Q .normal { a with defers := { target := .collected D, args := #[] } :: a.defers } W)
    (hstop : ∀ (D : Nat) (c : Code) (pre : List α) (W : World), w.heap.size ≤ D → Sp pre → Ix c pre W → W.heap[D]? = some (.deferred (some [])) → c.wp P Q { a with defers := { target := .collected D, args := #[] } :: a.defers } W) :
    (Code.rangeFunc g ps assign body).wp P Q a w := by
  refine (wpIn_wide (n := n + 2)).1 (wpIn_rangeFunc ?_)
  intro fn _
  obtain ⟨rec, hrec⟩ : ∃ rec : LoopState → Option Code → Loop, rec = fun st pe => { state := st, pending := pe, fn, tmps := a.tmps, params := ps, assign, body, defers := w.heap.size } := ⟨_, rfl⟩
  obtain ⟨W1, hW1⟩ : ∃ W1, (w.alloc (.deferred (some []))).alloc (.loop (rec .ready none)) = W1 := ⟨_, rfl⟩
  have hL1 : W1.heap[w.heap.size + 1]? = some (.loop (rec .ready none)) := by
    rw [← hW1]; have := World.alloc_heap_new (w.alloc (.deferred (some []))) (.loop (rec .ready none)); rwa [World.size_alloc] at this
  have hK1 : W1.heap[w.heap.size]? = some (.deferred (some [])) := by
    rw [← hW1]; exact (Below.heap_alloc _ _ _ (by simp)).trans (World.alloc_heap_new w _)
  have hI1 : I [] W1 := by rw [← hW1]; exact hI.alloc _ (hI.alloc _ h0)
  have hb1 : Below w0.heap.size w0 W1 := by
    rw [← hW1]; exact hb0.trans ((((Below.refl _ w).alloc (Nat.le_refl _) _).alloc (by simp) _).mono hb0.size)
  refine ⟨w.heap.size + 1, [{ target := .collected w.heap.size, args := #[] }], W1, { target := .fn (.func gf) lb, args := #[.func (.yield (w.heap.size + 1)) #[] #[]] }, W1, gf,
    #[.func (.yield (w.heap.size + 1)) #[] #[]] ++ lb, W1, ?_, ?_, ?_, ?_, fun _ => by omega, ?_⟩
  · rw [← hW1, hrec]; exact run_enterLoop_outer _ _ _ _ _
  · simp only [resolve, hg]
    simp [go_sem]
  · intro f' _; trivial
  · simp [invoke, go_sem, eg]
  · have hnw : ∀ {A B : World} {row : Option Nat}, (∀ r, row = some r → W1.heap.size ≤ r ∧ ∃ o : Obj, A.heap[r]? = some o ∧ o.isWalk = true) → (∀ r, row = some r → w.heap.size ≤ r ∧ ∃ o : Obj, A.heap[r]? = some o ∧ o.isCells = false) :=
      fun hr r e => by obtain ⟨hB, o, ho, hw⟩ := hr r e; exact ⟨by rw [← hW1] at hB; simp at hB; omega, o, ho, Obj.not_cells_of_walk hw⟩
    refine (hseq (w.heap.size + 1)
      (fun pre W => I pre W ∧ W.heap[w.heap.size + 1]? = some (.loop (rec .ready none)) ∧ W.heap[w.heap.size]? = some (.deferred (some [])))
      (fun pre W => ∃ c, Ix c pre W ∧ W.heap[w.heap.size + 1]? = some (.loop (rec .done (some c))) ∧ W.heap[w.heap.size]? = some (.deferred (some [])))
      W1 hb1
      (fun s A B row hs hg' hr => ⟨hI s A B row hs.1 hg' (hnw (B := B) hr), (grownBy_keeps hg' (fun r e => (hr r e).2) hs.2.1 rfl).trans hs.2.1, (grownBy_keeps hg' (fun r e => (hr r e).2) hs.2.2 rfl).trans hs.2.2⟩)
      (fun s A B row hs hg' hr => by
        obtain ⟨c, hc, hl, hk⟩ := hs
        exact ⟨c, hIx c s A B row hc hg' (hnw (B := B) hr), (grownBy_keeps hg' (fun r e => (hr r e).2) hl rfl).trans hl, (grownBy_keeps hg' (fun r e => (hr r e).2) hk rfl).trans hk⟩)
      ?_ ⟨hI1, hL1, hK1⟩).mono ?_
    · rintro pre x W ⟨hi, hl, hk⟩ hlen
      have hy := run_yield (P := P) (args := encs x) hl (by rw [hrec]; exact hps x)
      rw [hrec] at hy
      refine ⟨fn, _, assign, body, hy, roundIn_of_wpIn trivial (wpIn_mono (hassign _ pre x W hi hlen) ?_)⟩
      rintro e a1 Wa hp
      cases e with
      | normal =>
        obtain ⟨hka, hkpa, hma⟩ := hp
        have hla := hka.same _ _ hl rfl
        have hkka := hka.same _ _ hk rfl
        have hlt : w.heap.size + 1 < Wa.heap.size := (Array.getElem?_eq_some_iff.1 hla).1
        refine ⟨_, run_beginRound hla (by rw [hrec]), ?_⟩
        have hl2 : (Wa.putObj (w.heap.size + 1) (.loop { rec .ready none with state := .busy })).heap[w.heap.size + 1]? = some (.loop { rec .ready none with state := .busy }) := World.putObj_heap_same hlt
        have hk2 : (Wa.putObj (w.heap.size + 1) (.loop { rec .ready none with state := .busy })).heap[w.heap.size]? = some (.deferred (some [])) := (World.putObj_heap_other (by omega)).trans hkka
        have hw2 : Kp W (Wa.putObj (w.heap.size + 1) (.loop { rec .ready none with state := .busy })) := hKt hkpa (hKb _ _ _ _ (by omega) hla rfl rfl)
        refine wpIn_mono (hbody _ pre x a1 _ ((hIm x a1).putObj _ hma (by omega) hla rfl) hlen) ?_
        have fin : ∀ (jump : Option Code) (W3 : World), KeepsOthers (Wa.putObj (w.heap.size + 1) (.loop { rec .ready none with state := .busy })) W3 →
            (Instr.endRound (w.heap.size + 1) jump).run P W3 = .ok (.bool jump.isNone) (W3.putObj (w.heap.size + 1) (.loop (rec (if jump.isNone then .ready else .done) jump))) ∧
            W3.heap[w.heap.size + 1]? = some (.loop { rec .ready none with state := .busy }) ∧
            (W3.putObj (w.heap.size + 1) (.loop (rec (if jump.isNone then .ready else .done) jump))).heap[w.heap.size + 1]? = some (.loop (rec (if jump.isNone then .ready else .done) jump)) ∧
            (W3.putObj (w.heap.size + 1) (.loop (rec (if jump.isNone then .ready else .done) jump))).heap[w.heap.size]? = some (.deferred (some [])) := fun jump W3 hk3 => by
          have hl3 := hk3.same _ _ hl2 rfl
          have := run_endRound (P := P) jump hl3
          rw [hrec] at this ⊢
          exact ⟨this, by rw [hrec] at hl3; exact hl3, World.putObj_heap_same (Array.getElem?_eq_some_iff.1 hl3).1, (World.putObj_heap_other (by omega)).trans (hk3.same _ _ hk2 rfl)⟩
        rintro e a3 W3 hp
        cases e with
        | normal =>
          obtain ⟨hk3, hkp3, hi3⟩ := hp
          obtain ⟨hr, hl3, hl4, hk4⟩ := fin none W3 hk3
          exact ⟨_, _, hr, .inl ⟨rfl, ⟨hI.putObj _ hi3 (by omega) hl3 rfl, hl4, hk4⟩, hKt (hKt hw2 hkp3) (hKb _ _ _ _ (by omega) hl3 rfl rfl)⟩⟩
        | ret =>
          obtain ⟨hk3, hi3⟩ := hp
          obtain ⟨hr, hl3, hl4, hk4⟩ := fin (some .ret) W3 hk3
          exact ⟨_, _, hr, .inr ⟨rfl, .ret, (hIx _).putObj _ hi3 (by omega) hl3 rfl, hl4, hk4⟩⟩
        | exit id =>
          obtain ⟨hk3, hi3⟩ := hp
          obtain ⟨hr, hl3, hl4, hk4⟩ := fin (some (.exit id)) W3 hk3
          exact ⟨_, _, hr, .inr ⟨rfl, .exit id, (hIx _).putObj _ hi3 (by omega) hl3 rfl, hl4, hk4⟩⟩
        | goto t =>
          obtain ⟨hk3, hi3⟩ := hp
          obtain ⟨hr, hl3, hl4, hk4⟩ := fin (some (.goto t)) W3 hk3
          exact ⟨_, _, hr, .inr ⟨rfl, .goto t, (hIx _).putObj _ hi3 (by omega) hl3 rfl, hl4, hk4⟩⟩
        | panic ch => exact hp.elim
        | outgrown => exact hp.elim
      | ret => exact hp.elim
      | exit id => exact hp.elim
      | goto t => exact hp.elim
      | panic ch => exact hp.elim
      | outgrown => exact hp.elim
    · rintro e W2 ⟨⟨v, rfl⟩, (⟨xs, hS, hi, hl, hk⟩ | ⟨pre, hSp, c, hi, hl, hk⟩)⟩
      · exact ⟨none, _, by have := run_endLoop (P := P) hl (by rw [hrec]; simp); rw [hrec] at this; exact this, hdone _ xs _ (Nat.le_refl _) hS (hI.putObj _ hi (by omega) hl rfl) ((World.putObj_heap_other (by omega)).trans hk)⟩
      · exact ⟨some c, _, by have := run_endLoop (P := P) hl (by rw [hrec]; simp); rw [hrec] at this; exact this, wpIn_wide.2 (hstop _ c pre _ (Nat.le_refl _) hSp ((hIx c).putObj _ hi (by omega) hl rfl) ((World.putObj_heap_other (by omega)).trans hk))⟩

/-- Below, over the turn of a new block that holds no cells. -/
theorem bPut {a w : World} (h : Below a.heap.size a w) {D : Nat} (hD : a.heap.size ≤ D) (o : Obj) : Below a.heap.size a (w.putObj D o) :=
  h.grown (grownBy_putObj' w D o) h.size (fun k e => by cases e; exact hD)
theorem cell_putObj {w : World} {D : Nat} {o o' : Obj} (hD : w.heap[D]? = some o) (ho : o.isCells = false) {p : Addr} {v : Value} (h : w.cell? p = some v) : (w.putObj D o').cell? p = some v := by
  obtain ⟨o2, h2, hc⟩ := cells_of_cell h
  have hne : p.block ≠ D := by
    intro e; subst e; rw [hD] at h2; cases h2; rw [ho] at hc; cases hc
  rw [World.cell?_of_block (w := w) (World.putObj_heap_other hne)]; exact h

end Go.Proofs.YtmbopkcmbiommaaGreatDoor
