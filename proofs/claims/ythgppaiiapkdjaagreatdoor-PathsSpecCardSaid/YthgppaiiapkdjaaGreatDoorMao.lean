/-
  elgamal.ciphers: what it yields.
-/
import Derived.Test.YthgppaiiapkdjaaGreatDoorMan
import Derived.RangeFuncCalls
namespace Go.Proofs.YthgppaiiapkdjaaGreatDoor
open Go.RowKit

theorem ciphers_any (s : Nat) (w : World) :
    Calls Tryz.prog 51 #[.pointer (some ⟨s, 0, none⟩)] w fun r w' =>
      r = .returned (.func (.func 74) #[] #[.pointer (some ⟨w.heap.size, 0, none⟩)]) ∧ w' = w.alloc (.cells #[.pointer (some ⟨s, 0, none⟩)] 110) := by
  have hmf : ∀ (fn : Fn) (first cap : Array Value) (w : World), (Instr.makeFunc fn first cap).run Tryz.prog w = .ok (.func fn first cap) w := fun _ _ _ _ => rfl
  go_enter Tryz.func51, Tryz.ntmps51
  go_wp2
  go_ret
  exact ⟨rfl, rfl⟩

/-- What is yielded: an index, and the cipher's place. -/
def cphE (s : Nat) (k : Fin 3) : Array Value := #[.int .i64 (k.val : Nat), .pointer (some ⟨s, 2 * k.val, none⟩)]

set_option maxRecDepth 100000 in
set_option maxHeartbeats 2000000 in
theorem ciphers_loop (L bp s : Nat) (S : Nat → Prop) (hbp : S bp) (J Jx : List (Fin 3) → World → Prop) (W : World)
    (hY : ∀ pre x W1, J pre W1 → pre.length < 3 → YieldAt Fence.wide (2 + 1 - 1) Tryz.prog L (cphE s x) W1 fun e W' =>
      (e = .returned (.bool true) ∧ J (pre ++ [x]) W' ∧ Keeps S W1 W') ∨ (e = .returned (.bool false) ∧ Jx (pre ++ [x]) W'))
    (hB : Blk W bp 110 #[.pointer (some ⟨s, 0, none⟩)]) (h0 : J [] W) :
    CallsIn Fence.wide (2 + 1) Tryz.prog 74 #[.func (.yield L) #[] #[], .pointer (some ⟨bp, 0, none⟩)] W fun e W' => (∃ v, e = .returned v) ∧
      ((∃ ys, ys = [0, 1, 2] ∧ J ys W') ∨ (∃ pre, pre.length ≤ 3 ∧ Jx pre W')) := by
  refine callsIn_of_wp Tryz.func74 rfl trivial ?_ rfl
  simp only [Tryz.ntmps74, List.size_toArray, List.length_cons, List.length_nil, Nat.reduceAdd, Nat.reduceSub, Array.replicate_succ, Array.replicate_zero, List.push_toArray, List.append_toArray, List.nil_append, List.cons_append]
  gi_wp2
  gi_loopw [4] (fun i wr => ∃ (k : Int) (pre : List (Fin 3)), i = .int .i64 k ∧ Blk wr bp 110 #[.pointer (some ⟨s, 0, none⟩)] ∧ J pre wr ∧ (k = 0 ∧ pre = [] ∨ k = 1 ∧ pre = [0] ∨ k = 2 ∧ pre = [0, 1] ∨ k = 3 ∧ pre = [0, 1, 2])) (fun i _ => 3 - (intOf i).toNat)
  case atStart => exact ⟨0, [], rfl, hB, h0, .inl ⟨rfl, rfl⟩⟩
  case round =>
    clear hB h0
    obtain ⟨k, pre, rfl, hB, hJ, hk⟩ := hrel
    have c1 : wr.cell? ⟨bp, 0, none⟩ = some (.pointer (some ⟨s, 0, none⟩)) := hB.cell 0
    rcases hk with ⟨rfl, rfl⟩ | ⟨rfl, rfl⟩ | ⟨rfl, rfl⟩ | ⟨rfl, rfl⟩
    · obtain ⟨fn, tmps, assign, body, hy, hR⟩ := hY [] 0 wr hJ (by simp)
      replace hy : (Instr.yield L #[.int .i64 0, .pointer (some ⟨s, 0, none⟩)]).run Tryz.prog wr = .ok (.round L fn tmps assign body) wr := hy
      gi_wp2
      refine hR.mono ?_
      rintro e W3 (⟨rfl, hJ3, hk3⟩ | ⟨rfl, hJx3⟩)
      · have hB3 : Blk W3 bp 110 #[.pointer (some ⟨s, 0, none⟩)] := (hk3.same _ hbp).trans hB
        clear hB c1
        gi_wp2
        exact ⟨⟨1, _, rfl, hB3, hJ3, .inr (.inl ⟨rfl, rfl⟩)⟩, by simp [intOf]⟩
      · gi_wp2
        refine bodyPost_ret (results_none rfl _ _ _) rfl ?_
        exact ⟨⟨_, rfl⟩, .inr ⟨_, by simp, hJx3⟩⟩
    · obtain ⟨fn, tmps, assign, body, hy, hR⟩ := hY [0] 1 wr hJ (by simp)
      replace hy : (Instr.yield L #[.int .i64 1, .pointer (some ⟨s, 2, none⟩)]).run Tryz.prog wr = .ok (.round L fn tmps assign body) wr := hy
      gi_wp2
      refine hR.mono ?_
      rintro e W3 (⟨rfl, hJ3, hk3⟩ | ⟨rfl, hJx3⟩)
      · have hB3 : Blk W3 bp 110 #[.pointer (some ⟨s, 0, none⟩)] := (hk3.same _ hbp).trans hB
        clear hB c1
        gi_wp2
        exact ⟨⟨2, _, rfl, hB3, hJ3, .inr (.inr (.inl ⟨rfl, rfl⟩))⟩, by simp [intOf]⟩
      · gi_wp2
        refine bodyPost_ret (results_none rfl _ _ _) rfl ?_
        exact ⟨⟨_, rfl⟩, .inr ⟨_, by simp, hJx3⟩⟩
    · obtain ⟨fn, tmps, assign, body, hy, hR⟩ := hY [0, 1] 2 wr hJ (by simp)
      replace hy : (Instr.yield L #[.int .i64 2, .pointer (some ⟨s, 4, none⟩)]).run Tryz.prog wr = .ok (.round L fn tmps assign body) wr := hy
      gi_wp2
      refine hR.mono ?_
      rintro e W3 (⟨rfl, hJ3, hk3⟩ | ⟨rfl, hJx3⟩)
      · have hB3 : Blk W3 bp 110 #[.pointer (some ⟨s, 0, none⟩)] := (hk3.same _ hbp).trans hB
        clear hB c1
        gi_wp2
        exact ⟨⟨3, _, rfl, hB3, hJ3, .inr (.inr (.inr ⟨rfl, rfl⟩))⟩, by simp [intOf]⟩
      · gi_wp2
        refine bodyPost_ret (results_none rfl _ _ _) rfl ?_
        exact ⟨⟨_, rfl⟩, .inr ⟨_, by simp, hJx3⟩⟩
    · gi_wp2
      go_end0
      exact ⟨⟨_, rfl⟩, .inl ⟨_, rfl, hJ⟩⟩

theorem ciphers_stops (bp s : Nat) (S : Nat → Prop) (hbp : S bp) (w : World) (hB : Blk w bp 110 #[.pointer (some ⟨s, 0, none⟩)]) :
    SeqT (fun _ => False) (2 + 1) Tryz.prog 74 #[.pointer (some ⟨bp, 0, none⟩)] (cphE s) (Keeps S) (fun ys => ys = [0, 1, 2]) (fun pre => pre.length ≤ 3) 3 w := by
  intro L J Jx W hW _ _ hY h0
  exact ciphers_loop L bp s S hbp J Jx W hY (hB.below hW hB.lt) h0
end Go.Proofs.YthgppaiiapkdjaaGreatDoor

/-
  elgamal.Check, walked.
-/
namespace Go.Proofs.YthgppaiiapkdjaaGreatDoor
open Go.RowKit
attribute [local go_sem] Oper.semAt_some

/-- A contract, inside a round. -/
theorem inR {n : Nat} {P : Program} {f : FuncId} {args : Array Value} {w : World} {R : Ending → World → Prop} (L : Nat) (h : Calls P f args w R) : CallsIn (Fence.wide.inRound L) n P f args w R := (callsIn_wide.2 h).inRound L
/-- A letter: three ciphers. -/
structure Ltr where
  a0 : Int
  b0 : Int
  a1 : Int
  b1 : Int
  a2 : Int
  b2 : Int
def Ltr.cells (x : Ltr) : Array Value := #[.int .i64 x.a0, .int .i64 x.b0, .int .i64 x.a1, .int .i64 x.b1, .int .i64 x.a2, .int .i64 x.b2]
def Ltr.goodAt (x : Ltr) (k : Fin 3) : Bool := match k with | 0 => validB x.a0 && validB x.b0 | 1 => validB x.a1 && validB x.b1 | 2 => validB x.a2 && validB x.b2
def Ltr.good (x : Ltr) : Bool := validB x.a0 && validB x.b0 && (validB x.a1 && validB x.b1) && (validB x.a2 && validB x.b2)
theorem Ltr.at_ (x : Ltr) (k : Fin 3) : ∃ a b, x.cells[2 * k.val]? = some (.int .i64 a) ∧ x.cells[2 * k.val + 1]? = some (.int .i64 b) ∧ x.goodAt k = (validB a && validB b) := by
  match k with
  | 0 => exact ⟨_, _, rfl, rfl, rfl⟩
  | 1 => exact ⟨_, _, rfl, rfl, rfl⟩
  | 2 => exact ⟨_, _, rfl, rfl, rfl⟩
theorem Ltr.good_eq (x : Ltr) : x.good = (x.goodAt 0 && x.goodAt 1 && x.goodAt 2) := rfl
theorem Ltr.good_of (x : Ltr) (h : ∀ k, x.goodAt k = true) : x.good = true := by rw [x.good_eq, h, h, h]; rfl
theorem Ltr.bad_of (x : Ltr) (k : Fin 3) (h : x.goodAt k = false) : x.good = false := by
  rw [x.good_eq]
  match k, h with
  | 0, h => rw [h]; rfl
  | 1, h => rw [h]; simp
  | 2, h => rw [h]; simp
def Ltr.err (x : Ltr) : Int := if x.good = true then 0 else 100

set_option maxRecDepth 100000 in
set_option maxHeartbeats 2000000 in
theorem el_check (x : Ltr) (W : World) :
    Calls Tryz.prog 33 #[.agg #[.int .i64 x.a0, .int .i64 x.b0, .int .i64 x.a1, .int .i64 x.b1, .int .i64 x.a2, .int .i64 x.b2]] W (Ret (.int .i64 x.err) W) := by
  refine calls_of_wp_dm Tryz.func33 rfl ?_
  simp only [Tryz.ntmps33, List.size_toArray, List.length_cons, List.length_nil, Nat.reduceAdd, Nat.reduceSub, Array.replicate_succ, Array.replicate_zero, List.push_toArray, List.append_toArray, List.nil_append, List.cons_append]
  go_wp2_with fail
  refine (ciphers_any _ _).mono ?_
  rintro e w' ⟨rfl, rfl⟩
  go_wp2_with fail
  have BL : Blk (((W.alloc (.cells x.cells 44)).alloc (.cells #[.int .i64 0] 36)).alloc (.cells #[.pointer (some ⟨W.heap.size, 0, none⟩)] 110)) W.heap.size 44 x.cells := ((Blk.new W _ _ _ rfl).alloc _).alloc _
  have BE : Blk (((W.alloc (.cells x.cells 44)).alloc (.cells #[.int .i64 0] 36)).alloc (.cells #[.pointer (some ⟨W.heap.size, 0, none⟩)] 110)) (W.heap.size + 1) 36 #[.int .i64 0] := (Blk.new _ _ _ _ (by simp)).alloc _
  have BP : Blk (((W.alloc (.cells x.cells 44)).alloc (.cells #[.int .i64 0] 36)).alloc (.cells #[.pointer (some ⟨W.heap.size, 0, none⟩)] 110)) (W.heap.size + 1 + 1) 110 #[.pointer (some ⟨W.heap.size, 0, none⟩)] := Blk.new _ _ _ _ (by simp)
  have hb : Below W.heap.size W (((W.alloc (.cells x.cells 44)).alloc (.cells #[.int .i64 0] 36)).alloc (.cells #[.pointer (some ⟨W.heap.size, 0, none⟩)] 110)) := bAl (bAl (bAl (bRefl W) _) _) _
  have hw : (((W.alloc (.cells x.cells 44)).alloc (.cells #[.int .i64 0] 36)).alloc (.cells #[.pointer (some ⟨W.heap.size, 0, none⟩)] 110)).heap.size = W.heap.size + 1 + 1 + 1 := by simp
  change Code.wp _ _ _ _ (((W.alloc (.cells x.cells 44)).alloc (.cells #[.int .i64 0] 36)).alloc (.cells #[.pointer (some ⟨W.heap.size, 0, none⟩)] 110))
  generalize (((W.alloc (.cells x.cells 44)).alloc (.cells #[.int .i64 0] 36)).alloc (.cells #[.pointer (some ⟨W.heap.size, 0, none⟩)] 110)) = w3 at *
  refine wp_rangeFuncT 2 (gf := 74) (lb := #[.pointer (some ⟨W.heap.size + 1 + 1, 0, none⟩)]) rfl (enters_of Tryz.func74 (by kernel_rfl) rfl)
    (S := fun ys => ys = [0, 1, 2]) (Sp := fun pre => pre.length ≤ 3) (N := 3) (w0 := w3)
    (ciphers_stops (W.heap.size + 1 + 1) W.heap.size (fun k => k = W.heap.size + 1 + 1) rfl w3 BP)
    (fun k hk => hk.elim)
    Keeps.trans (Keeps.put (fun k hk => by omega)) (bRefl _) (fun _ => rfl)
    (fun pre W' => Blk W' W.heap.size 44 x.cells ∧ Blk W' (W.heap.size + 1) 36 #[.int .i64 0] ∧ Below W.heap.size W W' ∧ Hid (∀ k ∈ pre, x.goodAt k = true))
    (fun k a₁ pre W' => (Blk W' W.heap.size 44 x.cells ∧ Blk W' (W.heap.size + 1) 36 #[.int .i64 0] ∧ Below W.heap.size W W' ∧ Hid (∀ k ∈ pre, x.goodAt k = true)) ∧ a₁ = { tmps := #[.agg #[.int .i64 x.a0, .int .i64 x.b0, .int .i64 x.a1, .int .i64 x.b1, .int .i64 x.a2, .int .i64 x.b2], .pointer (some ⟨W.heap.size, 0, none⟩), .pointer (some ⟨W.heap.size + 1, 0, none⟩), undef, .pointer (some ⟨W.heap.size, 2 * k.val, none⟩), .func (.func 74) #[] #[.pointer (some ⟨W.heap.size + 1 + 1, 0, none⟩)], .int .i64 (k.val : Nat), .pointer (some ⟨W.heap.size, 2 * k.val, none⟩), undef, undef, undef, undef, undef, undef, undef, undef, undef, undef, undef, undef, undef, undef], defers := [] })
    (fun c pre W' => c = .ret ∧ Blk W' (W.heap.size + 1) 36 #[.int .i64 100] ∧ Below W.heap.size W W' ∧ Hid (x.good = false))
    (fun pre A' B' row h hg hr => ⟨h.1.kept hg hr, h.2.1.kept hg hr, bGrown h.2.2.1 hg hb.size hr, h.2.2.2⟩)
    (fun k a pre A' B' row h hg hr => ⟨⟨h.1.1.kept hg hr, h.1.2.1.kept hg hr, bGrown h.1.2.2.1 hg hb.size hr, h.1.2.2.2⟩, h.2⟩)
    (fun c pre A' B' row h hg hr => ⟨h.1, h.2.1.kept hg hr, bGrown h.2.2.1 hg hb.size hr, h.2.2.2⟩)
    (fun _ _ _ _ _ ht => ht.elim)
    (fun _ _ _ _ _ _ ht => ht.elim)
    ⟨BL, BE, hb, Lib.hid (fun k hk => by cases hk)⟩ ?assign ?body ?done ?stop
  case assign =>
    rintro L pre k Wc h hlen
    dsimp only [cphE]
    gi_wp2
    exact ⟨KeepsOthers.refl _, Keeps.refl _ _, h, trivial⟩
  case body =>
    rintro L pre k a₁ Wc ⟨⟨hL, hE, hbc, hg⟩, rfl⟩ hlen
    obtain ⟨a, b, ha, hb', hgd⟩ := x.at_ k
    have d1 : Wc.cell? ⟨W.heap.size, 2 * k.val, none⟩ = some (.int .i64 a) := (hL.cell _).trans ha
    have d2 : Wc.cell? ⟨W.heap.size, 2 * k.val + 1, none⟩ = some (.int .i64 b) := (hL.cell _).trans hb'
    have z1 : Wc.cell? ⟨W.heap.size + 1, 0, none⟩ = some (.int .i64 0) := hE.cell 0
    have z2 := hE.frozen 0
    have hGd := Lib.hid hgd
    clear ha hb' hgd
    have q1 := group_valid a Wc
    have q2 := group_valid b Wc
    cases h1 : validB a
    · have hbad : Hid (x.good = false) := by show _ = _; exact x.bad_of k (by rw [hGd.out, h1]; rfl)
      rw [h1] at q1
      clear h1 q2
      gi_wp2
      refine ⟨trivial, ?_⟩
      (with_reducible refine (inR L q1).mono ?_)
      rintro e w' ⟨rfl, rfl⟩
      clear q1
      gi_wp2
      refine ⟨trivial, ?_⟩
      gi_wp2
      exact ⟨KeepsOthers.setCell _ _ _, rfl, hE.set_ 0 _, bSet hbc (by show W.heap.size ≤ W.heap.size + 1; omega) _, hbad⟩
    · cases h2 : validB b
      · have hbad : Hid (x.good = false) := by show _ = _; exact x.bad_of k (by rw [hGd.out, h1, h2]; rfl)
        rw [h1] at q1
        rw [h2] at q2
        clear h1 h2
        gi_wp2
        refine ⟨trivial, ?_⟩
        (with_reducible refine (inR L q1).mono ?_)
        rintro e w' ⟨rfl, rfl⟩
        clear q1
        gi_wp2
        refine ⟨trivial, ?_⟩
        (with_reducible refine (inR L q2).mono ?_)
        rintro e w' ⟨rfl, rfl⟩
        clear q2
        gi_wp2
        exact ⟨KeepsOthers.setCell _ _ _, rfl, hE.set_ 0 _, bSet hbc (by show W.heap.size ≤ W.heap.size + 1; omega) _, hbad⟩
      · have hok : Hid (∀ j ∈ pre ++ [k], x.goodAt j = true) := by
          intro j hj
          rcases List.mem_append.1 hj with hj | hj
          · exact hg.out j hj
          · obtain rfl : j = k := by simpa using hj
            rw [hGd.out, h1, h2]; rfl
        rw [h1] at q1
        rw [h2] at q2
        clear h1 h2
        gi_wp2
        refine ⟨trivial, ?_⟩
        (with_reducible refine (inR L q1).mono ?_)
        rintro e w' ⟨rfl, rfl⟩
        clear q1
        gi_wp2
        refine ⟨trivial, ?_⟩
        (with_reducible refine (inR L q2).mono ?_)
        rintro e w' ⟨rfl, rfl⟩
        clear q2
        gi_wp2
        exact ⟨KeepsOthers.refl _, Keeps.refl _ _, hL, hE, hbc, hok⟩
  case done =>
    rintro D xs Wc hD hp ⟨hL, hE, hbc, hg⟩ hd
    have herr : Hid (x.err = 0) := by
      show _ = _
      have : x.good = true := x.good_of (fun k => hg.out k (by subst hp; match k with | 0 => simp | 1 => simp | 2 => simp))
      unfold Ltr.err; rw [this]; rfl
    have z1 : Wc.cell? ⟨W.heap.size + 1, 0, none⟩ = some (.int .i64 0) := hE.cell 0
    have z2 := hE.frozen 0
    have hD' : W.heap.size ≤ D := by omega
    have hdd : (Wc.setCell ⟨W.heap.size + 1, 0, none⟩ (.int .i64 0)).heap[D]? = some (.deferred (some [])) := by
      rw [Below.heap_setCell _ _ _ _ (by intro e; subst e; unfold Blk at hE; rw [hE] at hd; cases hd)]; exact hd
    have hE2 := (hE.set_ 0 (.int .i64 0)).put (o' := .deferred none) hdd rfl
    go_wp2_with fail
    refine leavesM_mark (by simp) hdd ?_
    have e1 := hE2.cell 0
    exact ⟨.int .i64 0, by simp [results, Tryz.results33, go_sem, e1], ret_int herr.out.symm, bPut (bSet hbc (by show W.heap.size ≤ W.heap.size + 1; omega) _) hD' _⟩
  case stop =>
    rintro D c' pre Wc hD _ ⟨rfl, hE, hbc, hbad⟩ hd
    have herr : Hid (x.err = 100) := by show _ = _; unfold Ltr.err; rw [hbad.out]; rfl
    have hD' : W.heap.size ≤ D := by omega
    have hE2 := hE.put (o' := .deferred none) hd rfl
    go_wp2_with fail
    refine leavesM_mark (by simp) hd ?_
    have e1 := hE2.cell 0
    exact ⟨.int .i64 100, by simp [results, Tryz.results33, go_sem, e1], ret_int herr.out.symm, bPut hbc hD' _⟩
end Go.Proofs.YthgppaiiapkdjaaGreatDoor
