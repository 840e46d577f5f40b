/-
  equal.ciphers: what it yields.
-/
import Derived.Test.YthgppaiiapkdjaaGreatDoorMat
import Derived.Test.YthgppaiiapkdjaaGreatDoorMab
import Derived.Test.YthgppaiiapkdjaaGreatDoorMap
namespace Go.Proofs.YthgppaiiapkdjaaGreatDoor
open Go.RowKit

/-- A cipher of a list of letters. -/
structure Pl (l : List Ltr) where
  i : Nat
  k : Fin 3
  hi : i < l.length
def Pl.ltr {l : List Ltr} (p : Pl l) : Ltr := l[p.i]'p.hi
def Ltr.aAt (x : Ltr) (k : Fin 3) : Int := match k with | 0 => x.a0 | 1 => x.a1 | 2 => x.a2
def Ltr.bAt (x : Ltr) (k : Fin 3) : Int := match k with | 0 => x.b0 | 1 => x.b1 | 2 => x.b2
def Pl.a {l : List Ltr} (p : Pl l) : Int := p.ltr.aAt p.k
def Pl.b {l : List Ltr} (p : Pl l) : Int := p.ltr.bAt p.k
def plE {l : List Ltr} (p : Pl l) : Array Value := #[.agg #[.int .i64 (p.i : Nat), .int .i64 (p.k.val : Nat)], .agg #[.int .i64 p.a, .int .i64 p.b]]

theorem equal_ciphers (v : Value) (w : World) (hv : ∃ A n c, v = .slice A n c) :
    Calls Tryz.prog 36 #[v] w fun r w' =>
      r = .returned (.func (.func 60) #[] #[.pointer (some ⟨w.heap.size, 0, none⟩)]) ∧ w' = w.alloc (.cells #[v] 24) := by
  have hmf : ∀ (fn : Fn) (first cap : Array Value) (w : World), (Instr.makeFunc fn first cap).run Tryz.prog w = .ok (.func fn first cap) w := fun _ _ _ _ => rfl
  obtain ⟨A, n, c, rfl⟩ := hv
  go_enter Tryz.func36, Tryz.ntmps36
  go_wp2
  go_ret
  exact ⟨rfl, rfl⟩
theorem plE_at {l : List Ltr} {k : Nat} {x : Ltr} (hx : l[k]? = some x) (j : Fin 3) (hk : k < l.length) : plE (⟨k, j, hk⟩ : Pl l) = #[.agg #[.int .i64 (k : Nat), .int .i64 (j.val : Nat)], .agg #[.int .i64 (x.aAt j), .int .i64 (x.bAt j)]] := by
  obtain ⟨_, rfl⟩ := List.getElem?_eq_some_iff.1 hx
  rfl

/-- What has been yielded: k letters, and m ciphers of the next. -/
def Yd (l : List Ltr) (k m : Nat) (pre : List (Pl l)) : Prop := pre.length = 3 * k + m ∧ ∀ p : Pl l, (p.i < k ∨ p.i = k ∧ p.k.val < m) → p ∈ pre
theorem Yd.start (l : List Ltr) : Yd l 0 0 [] := ⟨rfl, fun p h => by omega⟩
theorem Yd.add {l : List Ltr} {k m : Nat} {pre : List (Pl l)} (h : Yd l k m pre) (p : Pl l) (hi : p.i = k) (hk : p.k.val = m) : Yd l k (m + 1) (pre ++ [p]) := by
  refine ⟨by rw [List.length_append, h.1]; simp; omega, fun q hq => ?_⟩
  by_cases hm : q.i < k ∨ q.i = k ∧ q.k.val < m
  · exact List.mem_append_left _ (h.2 q hm)
  · refine List.mem_append_right _ ?_
    obtain ⟨i, k1, h1⟩ := p
    obtain ⟨j, k2, h2⟩ := q
    simp only at hi hk hq hm
    have e1 : j = i := by omega
    have e2 : k2 = k1 := Fin.ext (by omega)
    subst e1; subst e2
    simp
theorem Yd.next {l : List Ltr} {k : Nat} {pre : List (Pl l)} (h : Yd l k 3 pre) : Yd l (k + 1) 0 pre :=
  ⟨by rw [h.1]; omega, fun p hp => h.2 p (by have := p.k.isLt; omega)⟩

set_option maxRecDepth 100000 in
set_option maxHeartbeats 4000000 in
theorem eq_ciphers_loop (L bp B n c : Nat) (A : Option Addr) (l : List Ltr) (S : Nat → Prop) (hbp : S bp) (hSB : ∀ k, k < B → S k) (J Jx : List (Pl l) → World → Prop) (W : World) (hJ : AbT (fun _ => False) W.heap.size J)
    (hY : ∀ pre x W1, J pre W1 → pre.length < 3 * l.length → YieldAt Fence.wide (2 + 1 - 1) Tryz.prog L (plE x) W1 fun e W' =>
      (e = .returned (.bool true) ∧ J (pre ++ [x]) W' ∧ Keeps S W1 W') ∨ (e = .returned (.bool false) ∧ Jx (pre ++ [x]) W'))
    (hBW : B ≤ W.heap.size) (hB : Blk W bp 24 #[.slice A n c]) (hA : Rd W B 6 A n (l.flatMap Ltr.cl)) (hn : n ≤ 9223372036854775807) (h0 : J [] W) :
    CallsIn Fence.wide (2 + 1) Tryz.prog 60 #[.func (.yield L) #[] #[], .pointer (some ⟨bp, 0, none⟩)] W fun e W' => (∃ v, e = .returned v) ∧
      ((∃ ys, (∀ p, p ∈ ys) ∧ J ys W') ∨ (∃ pre, True ∧ Jx pre W')) := by
  obtain rfl : l.length = n := Ltrs_length hA
  refine callsIn_of_wp Tryz.func60 rfl trivial ?_ rfl
  simp only [Tryz.ntmps60, List.size_toArray, List.length_cons, List.length_nil, Nat.reduceAdd, Nat.reduceSub, Array.replicate_succ, Array.replicate_zero, List.push_toArray, List.append_toArray, List.nil_append, List.cons_append]
  have d0 := hB.cell 0
  gi_wp2
  gi_loopw [9] (fun i wr => ∃ (k : Nat) (pre : List (Pl l)), k ≤ l.length ∧ i = .int .i64 k ∧ Blk wr bp 24 #[.slice A l.length c] ∧ Rd wr B 6 A l.length (l.flatMap Ltr.cl) ∧ W.heap.size ≤ wr.heap.size ∧ J pre wr ∧ Yd l k 0 pre) (fun i _ => l.length - (intOf i).toNat)
  case atStart => exact ⟨0, [], Nat.zero_le _, rfl, hB, hA, Nat.le_refl _, h0, Yd.start l⟩
  case round =>
    clear hB h0 hA d0
    obtain ⟨wo, rfl⟩ : ∃ wo : World, wo = wr := ⟨_, rfl⟩
    obtain ⟨k, pre, hkn, rfl, hB, hA, hsz, hJ1, hyd⟩ := hrel
    by_cases hlt : k < l.length
    · obtain ⟨x, hx⟩ : ∃ x, Hid (l[k]? = some x) := ⟨_, Lib.hid (List.getElem?_eq_getElem hlt)⟩
      obtain ⟨b, off, rfl, hbb, c0, c1, c2, c3, c4, c5⟩ := Ltr_at hA hlt hx.out
      have hBs : B ≤ wo.heap.size := by omega
      have hJa := hJ.1 _ _ _ none hJ1 (World.grownBy_alloc wo (.cells #[.int .i64 x.a0, .int .i64 x.b0, .int .i64 x.a1, .int .i64 x.b1, .int .i64 x.a2, .int .i64 x.b2] 44) none) (by intro r e; cases e)
      have Ba := hB.alloc (.cells #[.int .i64 x.a0, .int .i64 x.b0, .int .i64 x.a1, .int .i64 x.b1, .int .i64 x.a2, .int .i64 x.b2] 44)
      have Aa := hA.below (bAl (bRefl wo) (.cells #[.int .i64 x.a0, .int .i64 x.b0, .int .i64 x.a1, .int .i64 x.b1, .int .i64 x.a2, .int .i64 x.b2] 44) |>.mono hBs)
      have hsa : W.heap.size ≤ (wo.alloc (.cells #[.int .i64 x.a0, .int .i64 x.b0, .int .i64 x.a1, .int .i64 x.b1, .int .i64 x.a2, .int .i64 x.b2] 44)).heap.size := by simp; omega
      have i0 : ∀ w, (Instr.index 44 (.agg #[.int .i64 x.a0, .int .i64 x.b0, .int .i64 x.a1, .int .i64 x.b1, .int .i64 x.a2, .int .i64 x.b2]) (.int .i64 0)).run Tryz.prog w = .ok (.agg #[.int .i64 x.a0, .int .i64 x.b0]) w := fun _ => by kernel_rfl
      have i1 : ∀ w, (Instr.index 44 (.agg #[.int .i64 x.a0, .int .i64 x.b0, .int .i64 x.a1, .int .i64 x.b1, .int .i64 x.a2, .int .i64 x.b2]) (.int .i64 1)).run Tryz.prog w = .ok (.agg #[.int .i64 x.a1, .int .i64 x.b1]) w := fun _ => by kernel_rfl
      have i2 : ∀ w, (Instr.index 44 (.agg #[.int .i64 x.a0, .int .i64 x.b0, .int .i64 x.a1, .int .i64 x.b1, .int .i64 x.a2, .int .i64 x.b2]) (.int .i64 2)).run Tryz.prog w = .ok (.agg #[.int .i64 x.a2, .int .i64 x.b2]) w := fun _ => by kernel_rfl
      gi_wp2
      gi_loopw [15] (fun i w2 => ∃ (m : Int) (pre2 : List (Pl l)), i = .int .i64 m ∧ Blk w2 bp 24 #[.slice (some ⟨b, off, none⟩) l.length c] ∧ Rd w2 B 6 (some ⟨b, off, none⟩) l.length (l.flatMap Ltr.cl) ∧ W.heap.size ≤ w2.heap.size ∧ J pre2 w2 ∧
        (m = 0 ∧ Yd l k 0 pre2 ∨ m = 1 ∧ Yd l k 1 pre2 ∨ m = 2 ∧ Yd l k 2 pre2 ∨ m = 3 ∧ Yd l k 3 pre2)) (fun i _ => 3 - (intOf i).toNat)
      case atStart => exact ⟨0, pre, rfl, Ba, Aa, hsa, hJa, .inl ⟨rfl, hyd⟩⟩
      case round =>
        clear hB hA hJ1 hyd c0 c1 c2 c3 c4 c5 Ba Aa hJa hBs hsa
        obtain ⟨m, pre2, rfl, hB2, hA2, hs2, hJ2, hm⟩ := hrel
        have hBs : B ≤ wr.heap.size := by omega
        rcases hm with ⟨rfl, hyd2⟩ | ⟨rfl, hyd2⟩ | ⟨rfl, hyd2⟩ | ⟨rfl, hyd2⟩
        · have hJa := hJ.1 _ _ _ none hJ2 (World.grownBy_alloc wr (.cells #[.int .i64 x.a0, .int .i64 x.b0] 42) none) (by intro r e; cases e)
          have Ba := hB2.alloc (.cells #[.int .i64 x.a0, .int .i64 x.b0] 42)
          have Aa := hA2.below (bAl (bRefl wr) (.cells #[.int .i64 x.a0, .int .i64 x.b0] 42) |>.mono hBs)
          have hsa : W.heap.size ≤ (wr.alloc (.cells #[.int .i64 x.a0, .int .i64 x.b0] 42)).heap.size := by simp; omega
          have hlen : pre2.length < 3 * l.length := by have := hyd2.1; omega
          obtain ⟨fn, tmps, assign, body, hy, hR⟩ := hY pre2 ⟨k, 0, hlt⟩ _ hJa hlen
          rw [plE_at hx.out 0 hlt] at hy
          replace hy : (Instr.yield L #[.agg #[.int .i64 (k : Nat), .int .i64 0], .agg #[.int .i64 x.a0, .int .i64 x.b0]]).run Tryz.prog (wr.alloc (.cells #[.int .i64 x.a0, .int .i64 x.b0] 42)) = .ok (.round L fn tmps assign body) (wr.alloc (.cells #[.int .i64 x.a0, .int .i64 x.b0] 42)) := hy
          gi_wp2
          refine hR.mono ?_
          rintro e W3 (⟨rfl, hJ3, hk3⟩ | ⟨rfl, hJx3⟩)
          · have hB3 : Blk W3 bp 24 #[.slice (some ⟨b, off, none⟩) l.length c] := (hk3.same _ hbp).trans Ba
            have hA3 := Aa.keeps hk3 hSB
            have hs3 := Nat.le_trans hsa hk3.size
            clear hy Ba Aa
            gi_wp2
            exact ⟨⟨1, _, rfl, hB3, hA3, hs3, hJ3, .inr (.inl ⟨rfl, hyd2.add ⟨k, 0, hlt⟩ rfl rfl⟩)⟩, by simp [intOf]⟩
          · gi_wp2
            refine bodyPost_ret (results_none rfl _ _ _) rfl ?_
            exact ⟨⟨_, rfl⟩, .inr ⟨_, trivial, hJx3⟩⟩
        · have hJa := hJ.1 _ _ _ none hJ2 (World.grownBy_alloc wr (.cells #[.int .i64 x.a1, .int .i64 x.b1] 42) none) (by intro r e; cases e)
          have Ba := hB2.alloc (.cells #[.int .i64 x.a1, .int .i64 x.b1] 42)
          have Aa := hA2.below (bAl (bRefl wr) (.cells #[.int .i64 x.a1, .int .i64 x.b1] 42) |>.mono hBs)
          have hsa : W.heap.size ≤ (wr.alloc (.cells #[.int .i64 x.a1, .int .i64 x.b1] 42)).heap.size := by simp; omega
          have hlen : pre2.length < 3 * l.length := by have := hyd2.1; omega
          obtain ⟨fn, tmps, assign, body, hy, hR⟩ := hY pre2 ⟨k, 1, hlt⟩ _ hJa hlen
          rw [plE_at hx.out 1 hlt] at hy
          replace hy : (Instr.yield L #[.agg #[.int .i64 (k : Nat), .int .i64 1], .agg #[.int .i64 x.a1, .int .i64 x.b1]]).run Tryz.prog (wr.alloc (.cells #[.int .i64 x.a1, .int .i64 x.b1] 42)) = .ok (.round L fn tmps assign body) (wr.alloc (.cells #[.int .i64 x.a1, .int .i64 x.b1] 42)) := hy
          gi_wp2
          refine hR.mono ?_
          rintro e W3 (⟨rfl, hJ3, hk3⟩ | ⟨rfl, hJx3⟩)
          · have hB3 : Blk W3 bp 24 #[.slice (some ⟨b, off, none⟩) l.length c] := (hk3.same _ hbp).trans Ba
            have hA3 := Aa.keeps hk3 hSB
            have hs3 := Nat.le_trans hsa hk3.size
            clear hy Ba Aa
            gi_wp2
            exact ⟨⟨2, _, rfl, hB3, hA3, hs3, hJ3, .inr (.inr (.inl ⟨rfl, hyd2.add ⟨k, 1, hlt⟩ rfl rfl⟩))⟩, by simp [intOf]⟩
          · gi_wp2
            refine bodyPost_ret (results_none rfl _ _ _) rfl ?_
            exact ⟨⟨_, rfl⟩, .inr ⟨_, trivial, hJx3⟩⟩
        · have hJa := hJ.1 _ _ _ none hJ2 (World.grownBy_alloc wr (.cells #[.int .i64 x.a2, .int .i64 x.b2] 42) none) (by intro r e; cases e)
          have Ba := hB2.alloc (.cells #[.int .i64 x.a2, .int .i64 x.b2] 42)
          have Aa := hA2.below (bAl (bRefl wr) (.cells #[.int .i64 x.a2, .int .i64 x.b2] 42) |>.mono hBs)
          have hsa : W.heap.size ≤ (wr.alloc (.cells #[.int .i64 x.a2, .int .i64 x.b2] 42)).heap.size := by simp; omega
          have hlen : pre2.length < 3 * l.length := by have := hyd2.1; omega
          obtain ⟨fn, tmps, assign, body, hy, hR⟩ := hY pre2 ⟨k, 2, hlt⟩ _ hJa hlen
          rw [plE_at hx.out 2 hlt] at hy
          replace hy : (Instr.yield L #[.agg #[.int .i64 (k : Nat), .int .i64 2], .agg #[.int .i64 x.a2, .int .i64 x.b2]]).run Tryz.prog (wr.alloc (.cells #[.int .i64 x.a2, .int .i64 x.b2] 42)) = .ok (.round L fn tmps assign body) (wr.alloc (.cells #[.int .i64 x.a2, .int .i64 x.b2] 42)) := hy
          gi_wp2
          refine hR.mono ?_
          rintro e W3 (⟨rfl, hJ3, hk3⟩ | ⟨rfl, hJx3⟩)
          · have hB3 : Blk W3 bp 24 #[.slice (some ⟨b, off, none⟩) l.length c] := (hk3.same _ hbp).trans Ba
            have hA3 := Aa.keeps hk3 hSB
            have hs3 := Nat.le_trans hsa hk3.size
            clear hy Ba Aa
            gi_wp2
            exact ⟨⟨3, _, rfl, hB3, hA3, hs3, hJ3, .inr (.inr (.inr ⟨rfl, hyd2.add ⟨k, 2, hlt⟩ rfl rfl⟩))⟩, by simp [intOf]⟩
          · gi_wp2
            refine bodyPost_ret (results_none rfl _ _ _) rfl ?_
            exact ⟨⟨_, rfl⟩, .inr ⟨_, trivial, hJx3⟩⟩
        · clear i0 i1 i2
          gi_wp2
          exact ⟨⟨k + 1, pre2, by omega, by go_num, hB2, hA2, hs2, hJ2, hyd2.next⟩, by simp [intOf]; omega⟩
    · gi_wp2
      go_end0
      refine ⟨⟨_, rfl⟩, .inl ⟨_, fun p => hyd.2 p (by have := p.hi; omega), hJ1⟩⟩

theorem eq_ciphers_stops (bp B n c : Nat) (A : Option Addr) (l : List Ltr) (S : Nat → Prop) (hbp : S bp) (w : World) (hBw : B ≤ w.heap.size) (hSB : ∀ k, k < B → S k) (hB : Blk w bp 24 #[.slice A n c]) (hA : Rd w B 6 A n (l.flatMap Ltr.cl)) (hn : n ≤ 9223372036854775807) :
    SeqT (fun _ => False) (2 + 1) Tryz.prog 60 #[.pointer (some ⟨bp, 0, none⟩)] plE (Keeps S) (fun ys => ∀ p : Pl l, p ∈ ys) (fun _ => True) (3 * l.length) w := by
  intro L J Jx W hW hJ _ hY h0
  exact eq_ciphers_loop L bp B n c A l S hbp hSB J Jx W hJ hY (Nat.le_trans hBw hW.size) (hB.below hW hB.lt) (hA.below (hW.mono hBw)) hn h0
theorem Ltr_atk {w : World} {B n i : Nat} {A : Option Addr} {l : List Ltr} {x : Ltr} (h : Rd w B 6 A n (l.flatMap Ltr.cl)) (hn : i < n) (hx : l[i]? = some x) (k : Fin 3) :
    ∃ b off, A = some ⟨b, off, none⟩ ∧ b < B ∧ w.cell? ⟨b, off + i * 6 + k.val * 2, none⟩ = some (.int .i64 (x.aAt k)) ∧ w.cell? ⟨b, off + i * 6 + k.val * 2 + 1, none⟩ = some (.int .i64 (x.bAt k)) := by
  obtain ⟨b, off, hA, hb, c0, c1, c2, c3, c4, c5⟩ := Ltr_at h hn hx
  refine ⟨b, off, hA, hb, ?_⟩
  match k with
  | 0 => exact ⟨c0, c1⟩
  | 1 => exact ⟨c2, c3⟩
  | 2 => exact ⟨c4, c5⟩
theorem good_at {x : Ltr} (h : x.good = true) (k : Fin 3) : validB (x.aAt k) = true ∧ validB (x.bAt k) = true := by
  unfold Ltr.good at h
  simp only [Bool.and_eq_true] at h
  obtain ⟨⟨⟨h1, h2⟩, h3, h4⟩, h5, h6⟩ := h
  match k with
  | 0 => exact ⟨h1, h2⟩
  | 1 => exact ⟨h3, h4⟩
  | 2 => exact ⟨h5, h6⟩
end Go.Proofs.YthgppaiiapkdjaaGreatDoor

/-
  A region that draws its order, inside a round of a range over an iterator: the mask's rule; and a range whose loop variables lie in new blocks.
-/
namespace Go.Proofs.YthgppaiiapkdjaaGreatDoor
open Go Go.RowKit

def NoOut (Q : Exit → Act → World → Prop) : Exit → Act → World → Prop
  | .panic _, _, _ => False
  | .outgrown, _, _ => False
  | e, a, w => Q e a w
theorem NoOut.normal {Q : Exit → Act → World → Prop} {a : Act} {w : World} (h : Q .normal a w) : NoOut Q .normal a w := h
theorem NoOut.imp {Q : Exit → Act → World → Prop} : ∀ (e : Exit) (a : Act) (w : World), NoOut Q e a w → Q e a w := fun e a w h => by
  cases e <;> first | exact h | exact (h : False).elim
theorem noOut_lets {Q : Exit → Act → World → Prop} (h : LetsOut (NoOut Q)) : False := by
  obtain ⟨a, w, h⟩ := h
  exact h

def noDefer (ops : Array Oper) : Bool := ops.all fun o => match o.op with | .defer _ => false | _ => true
theorem noDefer_spec {ops : Array Oper} (h : noDefer ops = true) {i : Nat} {o : Oper} (ho : ops[i]? = some o) : ∀ c, o.op ≠ .defer c := by
  intro c e
  unfold noDefer at h
  rw [Array.all_eq_true_iff_forall_mem] at h
  have := h o (Array.mem_of_getElem? ho)
  rw [e] at this
  cases this

section
variable {P : Program} {L n : Nat} {Q : Exit → Act → World → Prop}
theorem oper_round {o : Oper} {a : Act} {w : World} {K K' : Act → World → Prop} (hnd : ∀ c, o.op ≠ .defer c) (hK : ∀ a w, K a w → K' a w) (h : o.wp P a w K (NoOut Q)) : o.wpIn (Fence.wide.inRound L) n P a w K' (NoOut Q) := by
  refine ⟨fun _ _ => trivial, ?_⟩
  rw [show (Fence.wide.inRound L).round = some L from rfl, Oper.semAt_some _ _ _ hnd]
  unfold Oper.wp at h
  revert h
  generalize (execOp a.eval o).run P w = r
  intro h
  cases r with
  | ok x w' =>
    cases x with
    | value v => exact hK _ _ h
    | skip => exact hK _ _ h
    | defer d => exact hK _ _ h
    | enter f args =>
      refine ⟨fun hd => (by cases hd), CallsIn.inRound L (callsIn_wide.2 (Calls.mono h ?_))⟩
      intro e w'' hp
      cases e with
      | returned v => exact hK _ _ hp
      | panicked ch => exact hp
      | outgrown => exact hp
    | row row args =>
      refine ⟨fun hd => (by cases hd), fun c cs _ => ?_⟩
      obtain ⟨v, w'', hr, hs⟩ := h c cs
      exact ⟨v, w'', hK _ _ hr, stepsIn_wide.2 hs⟩
    | _ => exact h.elim
  | halt x w' =>
    cases x with
    | panic v => exact h
    | _ => exact h.elim

theorem wpOps_round {ops : Array Oper} (hnd : noDefer ops = true) : ∀ (l : List Nat) (a : Act) (w : World), wpOps P ops (NoOut Q) l a w → wpOpsIn (Fence.wide.inRound L) n P ops (NoOut Q) l a w
  | [], _, _, h => h
  | i :: l, a, w, h => by
    simp only [wpOps] at h
    simp only [wpOpsIn]
    cases ho : ops[i]? with
    | none => simp only [ho] at h ⊢; exact wpOps_round hnd l a w h
    | some o =>
      simp only [ho] at h ⊢
      split at h
      · rename_i hw
        rw [if_pos hw]
        rcases h with h | h
        · exact oper_round (noDefer_spec hnd ho) (fun a w h => wpOps_round hnd l a w h) h
        · exact (noOut_lets h.2).elim
      · rename_i hw
        rw [if_neg hw]
        exact ⟨fun _ _ => trivial, wpOps_round hnd l _ w h⟩

theorem wpIn_region_any' {id : Nat} {ops : Array Oper} {a : Act} {w : World} (hnd : noDefer ops = true) (hm : P.follows .mixedOrders = true)
    (h : wpAny P .any ops (NoOut Q) ops.size (Array.replicate ops.size false) a w.drew) : (Code.region id ops true).wpIn (Fence.wide.inRound L) n P Q a w := by
  refine Go.wpIn_mono (wpIn_region_draw (Q := NoOut Q) fun t => wpOps_round hnd _ _ _ ?_) NoOut.imp
  simp only [Region.schedule, hm, Bool.true_or, if_true]
  exact wpAny_sound ops.size t _ a _ h

/-- The region, inside a round. -/
theorem wpIn_region_mask {id : Nat} {l : List Oper} {a : Act} {w : World} {n : Nat} (S : World → Prop) (f k : Nat) (m : List Nat) (hm : P.follows .mixedOrders = true) (hB : (untilOk .any l.toArray f k m && noDefer l.toArray) = true)
    (hS : S w.drew)
    (h : wpHeads P l.toArray S (fun a' => wpTailS P l.toArray (NoOut Q) S k (pickT m l) a' w.drew) (pickH m l) a) : (Code.region id l.toArray true).wpIn (Fence.wide.inRound L) n P Q a w := by
  simp only [untilOk, Bool.and_eq_true, decide_eq_true_eq] at hB
  obtain ⟨⟨⟨⟨h1, h2⟩, h3⟩, h4⟩, h5⟩ := hB
  have hl : m.length = l.length := by simpa using h2
  refine wpIn_region_any' h5 hm ?_
  have := heads_any (md := .any) (f := f) (Q := NoOut Q) h1 (fun _ _ _ _ _ h => h) hS (tailsN m) m l 0 _ a hl (fun j _ => by simp) h3 h (fun a' h' => tail_any m k l 0 _ a' w.drew hl (fun j _ => by simp) h4 h')
  have := wpAny_of_until _ _ _ _ this
  rw [mask_len, h2] at this
  exact this
end
theorem wpHeads_pass {P : Program} {ops : Array Oper} {S : World → Prop} {K : Act → Prop} {b : Bool} {o : Oper} {l : List (Bool × Oper)} {a : Act} (hw : Region.wanted o (yielded ops a.tmps) = false)
    (h : wpHeads P ops S K l (a.put o.dst undef)) : wpHeads P ops S K ((b, o) :: l) a := ⟨undef, .inr ⟨hw, rfl⟩, h⟩

/-- A range whose loop variables lie in new blocks. -/
theorem wp_rangeBA {P : Program} {α : Type} {g : Operand} {ps : Array Tmp} {assign body : Code} {Q : Exit → Act → World → Prop} {a : Act} {w : World} (n : Nat)
    {gf : Nat} {lb : Array Value} (hg : a.eval g = .func (.func gf) #[] lb) (eg : ∀ args w, (callFunc gf args).run P w = .ok (.enter gf args) w)
    {encs : α → Array Value} {S Sp : List α → Prop} {N : Nat} (K : Nat → Prop) (hseq : SeqT (fun _ => False) (n + 1) P gf lb encs (Keeps K) S Sp N w) (hK : ∀ k, K k → k < w.heap.size) (hps : ∀ x, (encs x).size = ps.size)
    (base : World) (hb : Below base.heap.size base w) (bl : List α → List (Nat × TypeId × Array Value)) (R : List α → Prop) (bx : Code → List α → List (Nat × TypeId × Array Value)) (Rx : Code → List α → Prop)
    (h0 : Blks w (bl [])) (hR0 : R [])
    (hround : ∀ (l : Nat) (pre : List α) (x : α) (W : World), pre.length < N → Below base.heap.size base W → Blks W (bl pre) → R pre →
      assign.wpIn (Fence.wide.inRound l) n P (Exit.then (fun a₁ W₁ => ∃ nb : List (Nat × TypeId × Array Value), KeepsOthers W W₁ ∧ Keeps K W W₁ ∧ Below base.heap.size base W₁ ∧ Blks W₁ (nb ++ bl pre) ∧
        ∀ (L : Nat) (W2 : World), Below base.heap.size base W2 → Blks W2 (nb ++ bl pre) → body.wpIn (Fence.wide.inRound L) n P (RoundPost K base bl R bx Rx (pre ++ [x]) W2) a₁ W2) (fun _ _ _ => False)) { tmps := (ps.zip (encs x)).foldl (fun t (p, v) => t.setIfInBounds p v) a.tmps, defers := [] } W)
    (hdone : ∀ (D : Nat) (xs : List α) (W : World), base.heap.size ≤ D → S xs → Below base.heap.size base W → Blks W (bl xs) → R xs → W.heap[D]? = some (.deferred (some [])) → Q .normal { a with defers := { target := .collected D, args := #[] } :: a.defers } W)
    (hstop : ∀ (D : Nat) (c : Code) (pre : List α) (W : World), base.heap.size ≤ D → Sp pre → Below base.heap.size base W → Blks W (bx c pre) → Rx c pre → W.heap[D]? = some (.deferred (some [])) → c.wp P Q { a with defers := { target := .collected D, args := #[] } :: a.defers } W) :
    (Code.rangeFunc g ps assign body).wp P Q a w := by
  refine wp_rangeFuncT n hg eg (S := S) (Sp := Sp) (N := N) (w0 := w) (T := fun _ => False) hseq (fun _ h => h.elim) Keeps.trans (Keeps.put hK) (bRefl _) hps
    (fun pre W' => Below base.heap.size base W' ∧ Blks W' (bl pre) ∧ R pre)
    (fun x a₁ pre W' => ∃ nb : List (Nat × TypeId × Array Value), Below base.heap.size base W' ∧ Blks W' (nb ++ bl pre) ∧
      ∀ (L : Nat) (W2 : World), Below base.heap.size base W2 → Blks W2 (nb ++ bl pre) → body.wpIn (Fence.wide.inRound L) n P (RoundPost K base bl R bx Rx (pre ++ [x]) W2) a₁ W2)
    (fun c pre W' => Below base.heap.size base W' ∧ Blks W' (bx c pre) ∧ Rx c pre)
    (fun pre A' B' row h hg hr => ⟨bGrown h.1 hg hb.size hr, Blks.kept hg hr h.2.1, h.2.2⟩)
    (fun x a pre A' B' row h hg hr => by
      obtain ⟨nb, h1, h2, h3⟩ := h
      exact ⟨nb, bGrown h1 hg hb.size hr, Blks.kept hg hr h2, h3⟩)
    (fun c pre A' B' row h hg hr => ⟨bGrown h.1 hg hb.size hr, Blks.kept hg hr h.2.1, h.2.2⟩)
    (fun _ _ _ _ _ ht => ht.elim)
    (fun _ _ _ _ _ _ ht => ht.elim)
    ⟨hb, h0, hR0⟩ ?_ ?_ ?_ ?_
  · intro l pre x W hI hlen
    refine Go.wpIn_mono (hround l pre x W hlen hI.1 hI.2.1 hI.2.2) ?_
    intro e a' w' hp
    cases e with
    | normal =>
      obtain ⟨nb, h1, h2, h3, h4, h5⟩ := hp
      exact ⟨h1, h2, nb, h3, h4, h5⟩
    | _ => exact hp
  · intro l pre x a₁ W hI hlen
    obtain ⟨nb, h1, h2, h3⟩ := hI
    refine Go.wpIn_mono (h3 l W h1 h2) ?_
    intro e a' w' hp
    cases e with
    | normal => exact ⟨hp.1, hp.2.1, hp.2.2.1, hp.2.2.2.1, hp.2.2.2.2⟩
    | ret => exact ⟨hp.1, hp.2.1, hp.2.2.1, hp.2.2.2⟩
    | exit id => exact ⟨hp.1, hp.2.1, hp.2.2.1, hp.2.2.2⟩
    | goto t => exact ⟨hp.1, hp.2.1, hp.2.2.1, hp.2.2.2⟩
    | panic ch => exact hp.elim
    | outgrown => exact hp.elim
  · intro D xs W hD hS hI hd
    exact hdone D xs W (Nat.le_trans hb.size hD) hS hI.1 hI.2.1 hI.2.2 hd
  · intro D c pre W hD hS hI hd
    exact hstop D c pre W (Nat.le_trans hb.size hD) hS hI.1 hI.2.1 hI.2.2 hd
end Go.Proofs.YthgppaiiapkdjaaGreatDoor
