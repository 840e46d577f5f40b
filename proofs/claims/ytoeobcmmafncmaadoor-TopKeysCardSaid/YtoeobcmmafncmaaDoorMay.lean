/-
  equal.ciphers: what it yields.
-/
import Derived.Test.YtoeobcmmafncmaaDoorMax
import Derived.Test.YtoeobcmmafncmaaDoorMar
namespace Go.Proofs.YtoeobcmmafncmaaDoor
open Go.RowKit

/-- A cipher of a list of letters. -/
structure Pl (l : List Ltr) where
  i : Nat
  k : Fin 3
  hi : i < l.length
def Pl.ltr {l : List Ltr} (p : Pl l) : Ltr := l[p.i]'p.hi
def Ltr.aAt (x : Ltr) (k : Fin 3) : Int := match k with | 0 => x.a0 | 1 => x.a1 | 2 => x.a2
def Ltr.bAt (x : Ltr) (k : Fin 3) : Int := match k with | 0 => x.b0 | 1 => x.b1 | 2 => x.b2
def Pl.a {l : List Ltr} (p : Pl l) : Int := p.ltr.aAt p.k
def Pl.b {l : List Ltr} (p : Pl l) : Int := p.ltr.bAt p.k
def plE {l : List Ltr} (p : Pl l) : Array Value := #[.agg #[.int .i64 (p.i : Nat), .int .i64 (p.k.val : Nat)], .agg #[.int .i64 p.a, .int .i64 p.b]]

theorem equal_ciphers (v : Value) (w : World) (hv : ∃ A n c, v = .slice A n c) :
    Calls Tryd.prog 32 #[v] w fun r w' =>
      r = .returned (.func (.func 57) #[] #[.pointer (some ⟨w.heap.size, 0, none⟩)]) ∧ w' = w.alloc (.cells #[v] 48) := by
  have hmf : ∀ (fn : Fn) (first cap : Array Value) (w : World), (Instr.makeFunc fn first cap).run Tryd.prog w = .ok (.func fn first cap) w := fun _ _ _ _ => rfl
  obtain ⟨A, n, c, rfl⟩ := hv
  go_enter Tryd.func32, Tryd.ntmps32
  go_wp2
  go_ret
  exact ⟨rfl, rfl⟩
theorem plE_at {l : List Ltr} {k : Nat} {x : Ltr} (hx : l[k]? = some x) (j : Fin 3) (hk : k < l.length) : plE (⟨k, j, hk⟩ : Pl l) = #[.agg #[.int .i64 (k : Nat), .int .i64 (j.val : Nat)], .agg #[.int .i64 (x.aAt j), .int .i64 (x.bAt j)]] := by
  obtain ⟨_, rfl⟩ := List.getElem?_eq_some_iff.1 hx
  rfl

/-- What has been yielded: k letters, and m ciphers of the next. -/
def Yd (l : List Ltr) (k m : Nat) (pre : List (Pl l)) : Prop := pre.length = 3 * k + m ∧ ∀ p : Pl l, (p.i < k ∨ p.i = k ∧ p.k.val < m) → p ∈ pre
theorem Yd.start (l : List Ltr) : Yd l 0 0 [] := ⟨rfl, fun p h => by omega⟩
theorem Yd.add {l : List Ltr} {k m : Nat} {pre : List (Pl l)} (h : Yd l k m pre) (p : Pl l) (hi : p.i = k) (hk : p.k.val = m) : Yd l k (m + 1) (pre ++ [p]) := by
  refine ⟨by rw [List.length_append, h.1]; simp; omega, fun q hq => ?_⟩
  by_cases hm : q.i < k ∨ q.i = k ∧ q.k.val < m
  · exact List.mem_append_left _ (h.2 q hm)
  · refine List.mem_append_right _ ?_
    obtain ⟨i, k1, h1⟩ := p
    obtain ⟨j, k2, h2⟩ := q
    simp only at hi hk hq hm
    have e1 : j = i := by omega
    have e2 : k2 = k1 := Fin.ext (by omega)
    subst e1; subst e2
    simp
theorem Yd.next {l : List Ltr} {k : Nat} {pre : List (Pl l)} (h : Yd l k 3 pre) : Yd l (k + 1) 0 pre :=
  ⟨by rw [h.1]; omega, fun p hp => h.2 p (by have := p.k.isLt; omega)⟩

set_option maxRecDepth 100000 in
set_option maxHeartbeats 4000000 in
theorem eq_ciphers_loop (L bp B n c : Nat) (A : Option Addr) (l : List Ltr) (S : Nat → Prop) (hbp : S bp) (hSB : ∀ k, k < B → S k) (J Jx : List (Pl l) → World → Prop) (W : World) (hJ : AbT (fun _ => False) W.heap.size J)
    (hY : ∀ pre x W1, J pre W1 → pre.length < 3 * l.length → YieldAt Fence.wide (2 + 1 - 1) Tryd.prog L (plE x) W1 fun e W' =>
      (e = .returned (.bool true) ∧ J (pre ++ [x]) W' ∧ Keeps S W1 W') ∨ (e = .returned (.bool false) ∧ Jx (pre ++ [x]) W'))
    (hBW : B ≤ W.heap.size) (hB : Blk W bp 48 #[.slice A n c]) (hA : Rd W B 6 A n (l.flatMap Ltr.cl)) (hn : n ≤ 9223372036854775807) (h0 : J [] W) :
    CallsIn Fence.wide (2 + 1) Tryd.prog 57 #[.func (.yield L) #[] #[], .pointer (some ⟨bp, 0, none⟩)] W fun e W' => (∃ v, e = .returned v) ∧
      ((∃ ys, (∀ p, p ∈ ys) ∧ J ys W') ∨ (∃ pre, True ∧ Jx pre W')) := by
  obtain rfl : l.length = n := Ltrs_length hA
  refine callsIn_of_wp Tryd.func57 rfl trivial ?_ rfl
  simp only [Tryd.ntmps57, List.size_toArray, List.length_cons, List.length_nil, Nat.reduceAdd, Nat.reduceSub, Array.replicate_succ, Array.replicate_zero, List.push_toArray, List.append_toArray, List.nil_append, List.cons_append]
  have d0 := hB.cell 0
  gi_wp2
  gi_loopw [9] (fun i wr => ∃ (k : Nat) (pre : List (Pl l)), k ≤ l.length ∧ i = .int .i64 k ∧ Blk wr bp 48 #[.slice A l.length c] ∧ Rd wr B 6 A l.length (l.flatMap Ltr.cl) ∧ W.heap.size ≤ wr.heap.size ∧ J pre wr ∧ Yd l k 0 pre) (fun i _ => l.length - (intOf i).toNat)
  case atStart => exact ⟨0, [], Nat.zero_le _, rfl, hB, hA, Nat.le_refl _, h0, Yd.start l⟩
  case round =>
    clear hB h0 hA d0
    obtain ⟨wo, rfl⟩ : ∃ wo : World, wo = wr := ⟨_, rfl⟩
    obtain ⟨k, pre, hkn, rfl, hB, hA, hsz, hJ1, hyd⟩ := hrel
    by_cases hlt : k < l.length
    · obtain ⟨x, hx⟩ : ∃ x, Hid (l[k]? = some x) := ⟨_, Lib.hid (List.getElem?_eq_getElem hlt)⟩
      obtain ⟨b, off, rfl, hbb, c0, c1, c2, c3, c4, c5⟩ := Ltr_at hA hlt hx.out
      have hBs : B ≤ wo.heap.size := by omega
      have hJa := hJ.1 _ _ _ none hJ1 (World.grownBy_alloc wo (.cells #[.int .i64 x.a0, .int .i64 x.b0, .int .i64 x.a1, .int .i64 x.b1, .int .i64 x.a2, .int .i64 x.b2] 54) none) (by intro r e; cases e)
      have Ba := hB.alloc (.cells #[.int .i64 x.a0, .int .i64 x.b0, .int .i64 x.a1, .int .i64 x.b1, .int .i64 x.a2, .int .i64 x.b2] 54)
      have Aa := hA.below (bAl (bRefl wo) (.cells #[.int .i64 x.a0, .int .i64 x.b0, .int .i64 x.a1, .int .i64 x.b1, .int .i64 x.a2, .int .i64 x.b2] 54) |>.mono hBs)
      have hsa : W.heap.size ≤ (wo.alloc (.cells #[.int .i64 x.a0, .int .i64 x.b0, .int .i64 x.a1, .int .i64 x.b1, .int .i64 x.a2, .int .i64 x.b2] 54)).heap.size := by simp; omega
      have i0 : ∀ w, (Instr.index 54 (.agg #[.int .i64 x.a0, .int .i64 x.b0, .int .i64 x.a1, .int .i64 x.b1, .int .i64 x.a2, .int .i64 x.b2]) (.int .i64 0)).run Tryd.prog w = .ok (.agg #[.int .i64 x.a0, .int .i64 x.b0]) w := fun _ => by kernel_rfl
      have i1 : ∀ w, (Instr.index 54 (.agg #[.int .i64 x.a0, .int .i64 x.b0, .int .i64 x.a1, .int .i64 x.b1, .int .i64 x.a2, .int .i64 x.b2]) (.int .i64 1)).run Tryd.prog w = .ok (.agg #[.int .i64 x.a1, .int .i64 x.b1]) w := fun _ => by kernel_rfl
      have i2 : ∀ w, (Instr.index 54 (.agg #[.int .i64 x.a0, .int .i64 x.b0, .int .i64 x.a1, .int .i64 x.b1, .int .i64 x.a2, .int .i64 x.b2]) (.int .i64 2)).run Tryd.prog w = .ok (.agg #[.int .i64 x.a2, .int .i64 x.b2]) w := fun _ => by kernel_rfl
      gi_wp2
      gi_loopw [15] (fun i w2 => ∃ (m : Int) (pre2 : List (Pl l)), i = .int .i64 m ∧ Blk w2 bp 48 #[.slice (some ⟨b, off, none⟩) l.length c] ∧ Rd w2 B 6 (some ⟨b, off, none⟩) l.length (l.flatMap Ltr.cl) ∧ W.heap.size ≤ w2.heap.size ∧ J pre2 w2 ∧
        (m = 0 ∧ Yd l k 0 pre2 ∨ m = 1 ∧ Yd l k 1 pre2 ∨ m = 2 ∧ Yd l k 2 pre2 ∨ m = 3 ∧ Yd l k 3 pre2)) (fun i _ => 3 - (intOf i).toNat)
      case atStart => exact ⟨0, pre, rfl, Ba, Aa, hsa, hJa, .inl ⟨rfl, hyd⟩⟩
      case round =>
        clear hB hA hJ1 hyd c0 c1 c2 c3 c4 c5 Ba Aa hJa hBs hsa
        obtain ⟨m, pre2, rfl, hB2, hA2, hs2, hJ2, hm⟩ := hrel
        have hBs : B ≤ wr.heap.size := by omega
        rcases hm with ⟨rfl, hyd2⟩ | ⟨rfl, hyd2⟩ | ⟨rfl, hyd2⟩ | ⟨rfl, hyd2⟩
        · have hJa := hJ.1 _ _ _ none hJ2 (World.grownBy_alloc wr (.cells #[.int .i64 x.a0, .int .i64 x.b0] 52) none) (by intro r e; cases e)
          have Ba := hB2.alloc (.cells #[.int .i64 x.a0, .int .i64 x.b0] 52)
          have Aa := hA2.below (bAl (bRefl wr) (.cells #[.int .i64 x.a0, .int .i64 x.b0] 52) |>.mono hBs)
          have hsa : W.heap.size ≤ (wr.alloc (.cells #[.int .i64 x.a0, .int .i64 x.b0] 52)).heap.size := by simp; omega
          have hlen : pre2.length < 3 * l.length := by have := hyd2.1; omega
          obtain ⟨fn, tmps, assign, body, hy, hR⟩ := hY pre2 ⟨k, 0, hlt⟩ _ hJa hlen
          rw [plE_at hx.out 0 hlt] at hy
          replace hy : (Instr.yield L #[.agg #[.int .i64 (k : Nat), .int .i64 0], .agg #[.int .i64 x.a0, .int .i64 x.b0]]).run Tryd.prog (wr.alloc (.cells #[.int .i64 x.a0, .int .i64 x.b0] 52)) = .ok (.round L fn tmps assign body) (wr.alloc (.cells #[.int .i64 x.a0, .int .i64 x.b0] 52)) := hy
          gi_wp2
          refine hR.mono ?_
          rintro e W3 (⟨rfl, hJ3, hk3⟩ | ⟨rfl, hJx3⟩)
          · have hB3 : Blk W3 bp 48 #[.slice (some ⟨b, off, none⟩) l.length c] := (hk3.same _ hbp).trans Ba
            have hA3 := Aa.keeps hk3 hSB
            have hs3 := Nat.le_trans hsa hk3.size
            clear hy Ba Aa
            gi_wp2
            exact ⟨⟨1, _, rfl, hB3, hA3, hs3, hJ3, .inr (.inl ⟨rfl, hyd2.add ⟨k, 0, hlt⟩ rfl rfl⟩)⟩, by simp [intOf]⟩
          · gi_wp2
            refine bodyPost_ret (results_none rfl _ _ _) rfl ?_
            exact ⟨⟨_, rfl⟩, .inr ⟨_, trivial, hJx3⟩⟩
        · have hJa := hJ.1 _ _ _ none hJ2 (World.grownBy_alloc wr (.cells #[.int .i64 x.a1, .int .i64 x.b1] 52) none) (by intro r e; cases e)
          have Ba := hB2.alloc (.cells #[.int .i64 x.a1, .int .i64 x.b1] 52)
          have Aa := hA2.below (bAl (bRefl wr) (.cells #[.int .i64 x.a1, .int .i64 x.b1] 52) |>.mono hBs)
          have hsa : W.heap.size ≤ (wr.alloc (.cells #[.int .i64 x.a1, .int .i64 x.b1] 52)).heap.size := by simp; omega
          have hlen : pre2.length < 3 * l.length := by have := hyd2.1; omega
          obtain ⟨fn, tmps, assign, body, hy, hR⟩ := hY pre2 ⟨k, 1, hlt⟩ _ hJa hlen
          rw [plE_at hx.out 1 hlt] at hy
          replace hy : (Instr.yield L #[.agg #[.int .i64 (k : Nat), .int .i64 1], .agg #[.int .i64 x.a1, .int .i64 x.b1]]).run Tryd.prog (wr.alloc (.cells #[.int .i64 x.a1, .int .i64 x.b1] 52)) = .ok (.round L fn tmps assign body) (wr.alloc (.cells #[.int .i64 x.a1, .int .i64 x.b1] 52)) := hy
          gi_wp2
          refine hR.mono ?_
          rintro e W3 (⟨rfl, hJ3, hk3⟩ | ⟨rfl, hJx3⟩)
          · have hB3 : Blk W3 bp 48 #[.slice (some ⟨b, off, none⟩) l.length c] := (hk3.same _ hbp).trans Ba
            have hA3 := Aa.keeps hk3 hSB
            have hs3 := Nat.le_trans hsa hk3.size
            clear hy Ba Aa
            gi_wp2
            exact ⟨⟨2, _, rfl, hB3, hA3, hs3, hJ3, .inr (.inr (.inl ⟨rfl, hyd2.add ⟨k, 1, hlt⟩ rfl rfl⟩))⟩, by simp [intOf]⟩
          · gi_wp2
            refine bodyPost_ret (results_none rfl _ _ _) rfl ?_
            exact ⟨⟨_, rfl⟩, .inr ⟨_, trivial, hJx3⟩⟩
        · have hJa := hJ.1 _ _ _ none hJ2 (World.grownBy_alloc wr (.cells #[.int .i64 x.a2, .int .i64 x.b2] 52) none) (by intro r e; cases e)
          have Ba := hB2.alloc (.cells #[.int .i64 x.a2, .int .i64 x.b2] 52)
          have Aa := hA2.below (bAl (bRefl wr) (.cells #[.int .i64 x.a2, .int .i64 x.b2] 52) |>.mono hBs)
          have hsa : W.heap.size ≤ (wr.alloc (.cells #[.int .i64 x.a2, .int .i64 x.b2] 52)).heap.size := by simp; omega
          have hlen : pre2.length < 3 * l.length := by have := hyd2.1; omega
          obtain ⟨fn, tmps, assign, body, hy, hR⟩ := hY pre2 ⟨k, 2, hlt⟩ _ hJa hlen
          rw [plE_at hx.out 2 hlt] at hy
          replace hy : (Instr.yield L #[.agg #[.int .i64 (k : Nat), .int .i64 2], .agg #[.int .i64 x.a2, .int .i64 x.b2]]).run Tryd.prog (wr.alloc (.cells #[.int .i64 x.a2, .int .i64 x.b2] 52)) = .ok (.round L fn tmps assign body) (wr.alloc (.cells #[.int .i64 x.a2, .int .i64 x.b2] 52)) := hy
          gi_wp2
          refine hR.mono ?_
          rintro e W3 (⟨rfl, hJ3, hk3⟩ | ⟨rfl, hJx3⟩)
          · have hB3 : Blk W3 bp 48 #[.slice (some ⟨b, off, none⟩) l.length c] := (hk3.same _ hbp).trans Ba
            have hA3 := Aa.keeps hk3 hSB
            have hs3 := Nat.le_trans hsa hk3.size
            clear hy Ba Aa
            gi_wp2
            exact ⟨⟨3, _, rfl, hB3, hA3, hs3, hJ3, .inr (.inr (.inr ⟨rfl, hyd2.add ⟨k, 2, hlt⟩ rfl rfl⟩))⟩, by simp [intOf]⟩
          · gi_wp2
            refine bodyPost_ret (results_none rfl _ _ _) rfl ?_
            exact ⟨⟨_, rfl⟩, .inr ⟨_, trivial, hJx3⟩⟩
        · clear i0 i1 i2
          gi_wp2
          exact ⟨⟨k + 1, pre2, by omega, by go_num, hB2, hA2, hs2, hJ2, hyd2.next⟩, by simp [intOf]; omega⟩
    · gi_wp2
      go_end0
      refine ⟨⟨_, rfl⟩, .inl ⟨_, fun p => hyd.2 p (by have := p.hi; omega), hJ1⟩⟩

theorem eq_ciphers_stops (bp B n c : Nat) (A : Option Addr) (l : List Ltr) (S : Nat → Prop) (hbp : S bp) (w : World) (hBw : B ≤ w.heap.size) (hSB : ∀ k, k < B → S k) (hB : Blk w bp 48 #[.slice A n c]) (hA : Rd w B 6 A n (l.flatMap Ltr.cl)) (hn : n ≤ 9223372036854775807) :
    SeqT (fun _ => False) (2 + 1) Tryd.prog 57 #[.pointer (some ⟨bp, 0, none⟩)] plE (Keeps S) (fun ys => ∀ p : Pl l, p ∈ ys) (fun _ => True) (3 * l.length) w := by
  intro L J Jx W hW hJ _ hY h0
  exact eq_ciphers_loop L bp B n c A l S hbp hSB J Jx W hJ hY (Nat.le_trans hBw hW.size) (hB.below hW hB.lt) (hA.below (hW.mono hBw)) hn h0
theorem Ltr_atk {w : World} {B n i : Nat} {A : Option Addr} {l : List Ltr} {x : Ltr} (h : Rd w B 6 A n (l.flatMap Ltr.cl)) (hn : i < n) (hx : l[i]? = some x) (k : Fin 3) :
    ∃ b off, A = some ⟨b, off, none⟩ ∧ b < B ∧ w.cell? ⟨b, off + i * 6 + k.val * 2, none⟩ = some (.int .i64 (x.aAt k)) ∧ w.cell? ⟨b, off + i * 6 + k.val * 2 + 1, none⟩ = some (.int .i64 (x.bAt k)) := by
  obtain ⟨b, off, hA, hb, c0, c1, c2, c3, c4, c5⟩ := Ltr_at h hn hx
  refine ⟨b, off, hA, hb, ?_⟩
  match k with
  | 0 => exact ⟨c0, c1⟩
  | 1 => exact ⟨c2, c3⟩
  | 2 => exact ⟨c4, c5⟩
theorem good_at {x : Ltr} (h : x.good = true) (k : Fin 3) : validB (x.aAt k) = true ∧ validB (x.bAt k) = true := by
  unfold Ltr.good at h
  simp only [Bool.and_eq_true] at h
  obtain ⟨⟨⟨h1, h2⟩, h3, h4⟩, h5, h6⟩ := h
  match k with
  | 0 => exact ⟨h1, h2⟩
  | 1 => exact ⟨h3, h4⟩
  | 2 => exact ⟨h5, h6⟩
end Go.Proofs.YtoeobcmmafncmaaDoor

/-
  equal.CheckBare, walked.
-/
namespace Go.Proofs.YtoeobcmmafncmaaDoor
open Go.RowKit
attribute [local go_sem] Oper.semAt_some

theorem Blk.one_ {w : World} {b : Nat} {t : TypeId} {v : Value} (h : Blk w b t #[v]) : w.cell? ⟨b, 0, none⟩ = some v ∧ w.frozen? ⟨b, 0, none⟩ = false := ⟨h.cell 0, h.frozen 0⟩
theorem Blk.two {w : World} {b : Nat} {t : TypeId} {v u : Value} (h : Blk w b t #[v, u]) : w.cell? ⟨b, 0, none⟩ = some v ∧ w.cell? ⟨b, 1, none⟩ = some u := ⟨h.cell 0, h.cell 1⟩
theorem and5 {a b c d e : Prop} (h1 : a) (h2 : b) (h3 : c) (h4 : d) (h5 : e) : a ∧ b ∧ c ∧ d ∧ e := ⟨h1, h2, h3, h4, h5⟩
theorem and10 {a b c d e f g h i j : Prop} (h1 : a) (h2 : b) (h3 : c) (h4 : d) (h5 : e) (h6 : f) (h7 : g) (h8 : h) (h9 : i) (h10 : j) : a ∧ b ∧ c ∧ d ∧ e ∧ f ∧ g ∧ h ∧ i ∧ j := ⟨h1, h2, h3, h4, h5, h6, h7, h8, h9, h10⟩
theorem Blk.set1 {w : World} {b : Nat} {t : TypeId} {v : Value} (h : Blk w b t #[v]) (u : Value) : Blk (w.setCell ⟨b, 0, none⟩ u) b t #[u] := by simpa using h.set_ 0 u
/-- Is one cipher taken off rightly? -/
def bareAt (key : Int) (x y p : Ltr) (k : Fin 3) : Bool := decide (y.aAt k = x.aAt k) && checkB key (x.aAt k) (mulL [x.bAt k, powV (y.bAt k) (-1)]) (p.aAt k) (p.bAt k)
def bareOne (key : Int) (x y p : Ltr) : Bool := bareAt key x y p 0 && bareAt key x y p 1 && bareAt key x y p 2
/-- Of lists. -/
def bareAll (key : Int) : List Ltr → List Ltr → List Ltr → Bool
  | x :: l, y :: m, p :: q => bareOne key x y p && bareAll key l m q
  | _, _, _ => true
/-- One cipher of the lists. -/
def bareZ (key : Int) {l : List Ltr} (x p : List Ltr) (z : Pl l) : Bool := bareAt key z.ltr (x.getD z.i zeroL) (p.getD z.i zeroL) z.k
theorem bareAll_bad {key : Int} : ∀ {l x p : List Ltr}, l.length = x.length → l.length = p.length → ∀ z : Pl l, bareZ key x p z = false → bareAll key l x p = false
  | [], _, _, _, _, z, _ => absurd z.hi (by simp)
  | X :: l, [], _, h, _, _, _ => by simp at h
  | X :: l, _ :: _, [], _, h, _, _ => by simp at h
  | X :: l, Y :: x, Z :: p, h1, h2, ⟨0, k, hi⟩, hz => by
    have hz' : bareAt key X Y Z k = false := hz
    unfold bareAll bareOne
    match k, hz' with
    | 0, e => rw [e]; rfl
    | 1, e => rw [e]; simp
    | 2, e => rw [e]; simp
  | X :: l, Y :: x, Z :: p, h1, h2, ⟨i + 1, k, hi⟩, hz => by
    have := bareAll_bad (key := key) (l := l) (x := x) (p := p) (by simpa using h1) (by simpa using h2) ⟨i, k, by simpa using hi⟩ hz
    unfold bareAll
    rw [this]; simp
theorem bareAll_ok {key : Int} : ∀ {l x p : List Ltr}, l.length = x.length → l.length = p.length → (∀ z : Pl l, bareZ key x p z = true) → bareAll key l x p = true
  | [], _, _, _, _, _ => by unfold bareAll; rfl
  | X :: l, [], _, h, _, _ => by simp at h
  | X :: l, _ :: _, [], _, h, _ => by simp at h
  | X :: l, Y :: x, Z :: p, h1, h2, hz => by
    have := bareAll_ok (key := key) (l := l) (x := x) (p := p) (by simpa using h1) (by simpa using h2) (fun z => hz ⟨z.i + 1, z.k, by have := z.hi; simp; omega⟩)
    have h0 : ∀ k, bareAt key X Y Z k = true := fun k => hz ⟨0, k, by simp⟩
    unfold bareAll bareOne
    rw [this, h0, h0, h0]; rfl
def checkBareB (key : Int) (l m q : List Ltr) : Bool := validB key && (decide (l.length = m.length) && (decide (l.length = q.length) && (decide (chkL l = 0) && (decide (chkL m = 0) && bareAll key l m q))))

set_option maxRecDepth 100000 in
set_option maxHeartbeats 16000000 in
theorem equal_checkBare (key : Int) (A B C : Option Addr) (n m q ca cb cc : Nat) (l x p : List Ltr) (W : World) (hA : Rd W W.heap.size 6 A n (l.flatMap Ltr.cl)) (hB : Rd W W.heap.size 6 B m (x.flatMap Ltr.cl)) (hC : Rd W W.heap.size 6 C q (p.flatMap Ltr.cl))
    (hn : n ≤ 9223372036854775807) (hm : m ≤ 9223372036854775807) (hq : q ≤ 9223372036854775807) (hG : ShaG W) :
    Calls Tryd.prog 14 #[.int .i64 key, .slice A n ca, .slice B m cb, .slice C q cc] W (Ret (.bool (checkBareB key l x p)) W) := by
  obtain rfl : l.length = n := Ltrs_length hA
  obtain rfl : x.length = m := Ltrs_length hB
  obtain rfl : p.length = q := Ltrs_length hC
  refine calls_of_wp_dm Tryd.func14 rfl ?_
  obtain ⟨v, hv⟩ : ∃ v, v = checkBareB key l x p := ⟨_, rfl⟩
  rw [← hv]
  obtain ⟨W3, hW3⟩ : ∃ W3, W3 = (((W.alloc (.cells #[.int .i64 key] 3)).alloc (.cells #[.slice B x.length cb] 48)).alloc (.cells #[.slice C p.length cc] 64)).alloc (.cells #[.bool false] 4) := ⟨_, rfl⟩
  have h3 : Below W.heap.size W W3 := by rw [hW3]; exact bAl (bAl (bAl (bAl (bRefl W) _) _) _) _
  have BK : Blk W3 W.heap.size 3 #[.int .i64 key] := by rw [hW3]; exact (((Blk.new _ _ _ _ rfl).alloc _).alloc _).alloc _
  have BX : Blk W3 (W.heap.size + 1) 48 #[.slice B x.length cb] := by rw [hW3]; exact ((Blk.new _ _ _ _ (by simp)).alloc _).alloc _
  have BQ : Blk W3 (W.heap.size + 1 + 1) 64 #[.slice C p.length cc] := by rw [hW3]; exact (Blk.new _ _ _ _ (by simp)).alloc _
  have BV : Blk W3 (W.heap.size + 1 + 1 + 1) 4 #[.bool false] := by rw [hW3]; exact Blk.new _ _ _ _ (by simp)
  simp only [Tryd.ntmps14, List.size_toArray, List.length_cons, List.length_nil, Nat.reduceAdd, Nat.reduceSub, Array.replicate_succ, Array.replicate_zero, List.push_toArray, List.append_toArray, List.nil_append, List.cons_append]







  have q1 := group_valid key W3
  obtain ⟨k0, _⟩ := BK.one_
  obtain ⟨k1, _⟩ := BX.one_
  obtain ⟨k2, _⟩ := BQ.one_
  cases h1 : validB key
  · have Hv : Hid (v = false) := by show _ = _; rw [hv]; unfold checkBareB; rw [h1]; rfl
    rw [h1] at q1
    clear hv h1
    go_upto_region 1 with fail
    rw [← hW3]
    clear hW3
    go_wp2_with fail
    (with_reducible refine q1.mono ?_)
    rintro e w4 ⟨rfl, rfl⟩
    clear q1
    obtain ⟨k3, z3⟩ := BV.one_
    have e0 := (BV.set1 (.bool false)).one_.1
    go_wp2_with fail
    exact ⟨.bool false, by simp [results, Tryd.results14, go_sem, e0], ret_bool Hv.out.symm, bSet h3 (by show W.heap.size ≤ W.heap.size + 1 + 1 + 1; omega) _⟩
  rw [h1] at q1
  by_cases h2 : l.length = x.length
  case neg =>
    have Hv : Hid (v = false) := by show _ = _; rw [hv]; unfold checkBareB; rw [decide_eq_false h2]; simp
    have t2 : ((l.length : Int) != (x.length : Int)) = true := by rw [bne_iff_ne]; omega
    clear hv h1 h2
    go_upto_region 1 with fail
    rw [← hW3]
    clear hW3
    go_wp2_with fail
    (with_reducible refine q1.mono ?_)
    rintro e w4 ⟨rfl, rfl⟩
    clear q1
    obtain ⟨k3, z3⟩ := BV.one_
    have e0 := (BV.set1 (.bool false)).one_.1
    go_wp2_with fail
    exact ⟨.bool false, by simp [results, Tryd.results14, go_sem, e0], ret_bool Hv.out.symm, bSet h3 (by show W.heap.size ≤ W.heap.size + 1 + 1 + 1; omega) _⟩
  have t2 : ((l.length : Int) != (x.length : Int)) = false := by rw [h2]; simp
  have H2 := Lib.hid h2
  by_cases h4 : l.length = p.length
  case neg =>
    have Hv : Hid (v = false) := by show _ = _; rw [hv]; unfold checkBareB; rw [decide_eq_false h4]; simp
    have t4 : ((l.length : Int) != (p.length : Int)) = true := by rw [bne_iff_ne]; omega
    clear hv h1 h2 h4
    go_upto_region 1 with fail
    rw [← hW3]
    clear hW3
    go_wp2_with fail
    (with_reducible refine q1.mono ?_)
    rintro e w4 ⟨rfl, rfl⟩
    clear q1
    obtain ⟨k3, z3⟩ := BV.one_
    have e0 := (BV.set1 (.bool false)).one_.1
    go_wp2_with fail
    exact ⟨.bool false, by simp [results, Tryd.results14, go_sem, e0], ret_bool Hv.out.symm, bSet h3 (by show W.heap.size ≤ W.heap.size + 1 + 1 + 1; omega) _⟩
  have t4 : ((l.length : Int) != (p.length : Int)) = false := by rw [h4]; simp
  have H4 := Lib.hid h4
  clear h2 h4
  have q2 := equal_chk A l.length ca l W3 (hA.below h3 |>.more h3.size) hn
  by_cases h5 : chkL l = 0
  case neg =>
    have Hv : Hid (v = false) := by show _ = _; rw [hv]; unfold checkBareB; rw [decide_eq_false h5]; simp
    have t5 : (chkL l != 0) = true := by rw [bne_iff_ne]; exact h5
    clear hv h1 h5
    go_upto_region 1 with fail
    rw [← hW3]
    clear hW3
    go_wp2_with fail
    (with_reducible refine q1.mono ?_)
    rintro e w4 ⟨rfl, rfl⟩
    clear q1
    go_wp2_with fail
    (with_reducible refine q2.mono ?_)
    rintro e w5 ⟨rfl, b5⟩
    clear q2
    replace h3 := bCall h3 b5
    replace BV := BV.below b5 BV.lt
    clear k0 k1 k2
    obtain ⟨k3, z3⟩ := BV.one_
    have e0 := (BV.set1 (.bool false)).one_.1
    go_wp2_with fail
    exact ⟨.bool false, by simp [results, Tryd.results14, go_sem, e0], ret_bool Hv.out.symm, bSet h3 (by show W.heap.size ≤ W.heap.size + 1 + 1 + 1; omega) _⟩
  rw [h5] at q2
  by_cases h6 : chkL x = 0
  case neg =>
    have Hv : Hid (v = false) := by show _ = _; rw [hv]; unfold checkBareB; rw [decide_eq_false h6]; simp
    have t6 : (chkL x != 0) = true := by rw [bne_iff_ne]; exact h6
    clear hv h1 h6
    go_upto_region 1 with fail
    rw [← hW3]
    clear hW3
    go_wp2_with fail
    (with_reducible refine q1.mono ?_)
    rintro e w4 ⟨rfl, rfl⟩
    clear q1
    go_wp2_with fail
    (with_reducible refine q2.mono ?_)
    rintro e w5 ⟨rfl, b5⟩
    clear q2
    replace h3 := bCall h3 b5
    replace BV := BV.below b5 BV.lt
    replace BX := BX.below b5 BX.lt
    clear k0 k1 k2
    obtain ⟨k1, _⟩ := BX.one_
    have q3 := equal_chk B x.length cb x w5 (hB.below h3 |>.more h3.size) hm
    go_wp2_with fail
    (with_reducible refine q3.mono ?_)
    rintro e w6 ⟨rfl, b6⟩
    clear q3
    replace h3 := bCall h3 b6
    replace BV := BV.below b6 BV.lt
    clear k1
    obtain ⟨k3, z3⟩ := BV.one_
    have e0 := (BV.set1 (.bool false)).one_.1
    go_wp2_with fail
    exact ⟨.bool false, by simp [results, Tryd.results14, go_sem, e0], ret_bool Hv.out.symm, bSet h3 (by show W.heap.size ≤ W.heap.size + 1 + 1 + 1; omega) _⟩
  have Hv : Hid (v = bareAll key l x p) := by show _ = _; rw [hv]; unfold checkBareB; rw [h1, h5, h6, decide_eq_true H2.out, decide_eq_true H4.out]; rfl
  have hgl : Hid (l.all Ltr.good = true) := by show _ = _; unfold chkL at h5; split at h5; · omega
                                               split at h5; · assumption
                                               omega
  have hky := validB_rng h1
  clear hv h1 h5
  go_upto_region 1 with fail
  rw [← hW3]
  clear hW3
  go_wp2_with fail
  (with_reducible refine q1.mono ?_)
  rintro e w4 ⟨rfl, rfl⟩
  clear q1
  go_wp2_with fail
  (with_reducible refine q2.mono ?_)
  rintro e w5 ⟨rfl, b5⟩
  clear q2
  replace h3 := bCall h3 b5
  replace BV := BV.below b5 BV.lt
  replace BK := BK.below b5 BK.lt
  replace BQ := BQ.below b5 BQ.lt
  replace BX := BX.below b5 BX.lt
  clear k0 k1 k2
  obtain ⟨k1, _⟩ := BX.one_
  have q3 := equal_chk B x.length cb x w5 (hB.below h3 |>.more h3.size) hm
  rw [h6] at q3
  go_wp2_with fail
  (with_reducible refine q3.mono ?_)
  rintro e w6 ⟨rfl, b6⟩
  clear q3
  replace h3 := bCall h3 b6
  replace BV := BV.below b6 BV.lt
  replace BX := BX.below b6 BX.lt
  replace BK := BK.below b6 BK.lt
  replace BQ := BQ.below b6 BQ.lt
  clear k1 h6
  go_wp2_with fail
  refine (equal_ciphers _ _ ⟨_, _, _, rfl⟩).mono ?_
  rintro e w' ⟨rfl, rfl⟩
  go_wp2_with fail
  obtain ⟨bp, hbp⟩ : ∃ bp, bp = w6.heap.size := ⟨_, rfl⟩
  have BP := Blk.new w6 48 #[.slice A l.length ca] bp hbp
  replace BV := BV.alloc (.cells #[.slice A l.length ca] 48)
  replace BX := BX.alloc (.cells #[.slice A l.length ca] 48)
  replace BK := BK.alloc (.cells #[.slice A l.length ca] 48)
  replace BQ := BQ.alloc (.cells #[.slice A l.length ca] 48)
  have h7 := bAl h3 (.cells #[.slice A l.length ca] 48)
  have hlt : W.heap.size + 1 + 1 + 1 < bp ∨ bp = bp := .inr rfl
  rw [← hbp]
  clear h3 b5 b6 hlt hbp t2 t4
  generalize w6.alloc (.cells #[.slice A l.length ca] 48) = w7 at *
  refine wp_rangeBA 2 (gf := 57) (lb := #[.pointer (some ⟨bp, 0, none⟩)]) rfl (enters_of Tryd.func57 (by kernel_rfl) rfl)
    (fun k => k < W.heap.size ∨ k = bp) (eq_ciphers_stops bp W.heap.size l.length ca A l (fun k => k < W.heap.size ∨ k = bp) (.inr rfl) w7 h7.size (fun k hk => .inl hk) BP (hA.below h7) hn) (fun k hk => by have h1 := BP.lt; have h2 := h7.size; omega) (fun _ => rfl) W h7
    (fun pre => [(W.heap.size, 3, #[.int .i64 key]), (W.heap.size + 1, 48, #[.slice B x.length cb]), (W.heap.size + 1 + 1, 64, #[.slice C p.length cc]), (W.heap.size + 1 + 1 + 1, 4, #[.bool false]), (bp, 48, #[.slice A l.length ca])])
    (fun pre => Hid (∀ z ∈ pre, bareZ key x p z = true)) (fun _ _ => [(W.heap.size + 1 + 1 + 1, 4, #[.bool false])]) (fun c _ => c = .ret ∧ Hid (v = false)) ⟨BK, BX, BQ, BV, BP, trivial⟩ (Lib.hid (by simp)) ?round ?done ?stop
  case round =>
    rintro _ pre z W0 hlen hb0 ⟨c1, c2, c3, c4, c5, _⟩ hR
    clear BK BX BQ BV BP h7
    dsimp only at c1 c2 c3 c4 c5
    obtain ⟨i, k, hi⟩ := z
    obtain ⟨X, hX⟩ : ∃ X, Hid (l[i]? = some X) := ⟨_, Lib.hid (List.getElem?_eq_getElem hi)⟩
    rw [plE_at hX.out k hi]
    gi_wp2
    refine ⟨[(W0.heap.size, 94, #[.int .i64 (i : Nat), .int .i64 (k.val : Nat)]), (W0.heap.size + 1, 52, #[.int .i64 (X.aAt k), .int .i64 (X.bAt k)])], KeepsOthers.below (bAl (bAl (bRefl _) _) _), Keeps.of_below (bAl (bAl (bRefl _) _) _) (fun j hj => by have h1 := c5.lt; have h2 := hb0.size; omega), bAl (bAl hb0 _) _, ⟨(Blk.new _ _ _ _ rfl).alloc _, Blk.new _ _ _ _ (by simp), (c1.alloc _).alloc _, (c2.alloc _).alloc _, (c3.alloc _).alloc _, (c4.alloc _).alloc _, (c5.alloc _).alloc _, trivial⟩, fun L Wc hbc hBl => ?_⟩
    have ht1 := c4.lt
    have ht2 := c5.lt
    clear c1 c2 c3 c4 c5
    generalize W0.heap.size = s0 at *
    obtain ⟨d1, d2, c1, c2, c3, c4, c5, _⟩ := hBl
    dsimp only at c1 c2 c3 c4 c5 d1 d2
    have hi' : i < x.length := by have := H2.out; omega
    have hi2 : i < p.length := by have := H4.out; omega
    obtain ⟨Y, hY⟩ : ∃ Y, Hid (x[i]? = some Y) := ⟨_, Lib.hid (List.getElem?_eq_getElem hi')⟩
    obtain ⟨Z, hZ⟩ : ∃ Z, Hid (p[i]? = some Z) := ⟨_, Lib.hid (List.getElem?_eq_getElem hi2)⟩
    obtain ⟨b, off, rfl, hbb, x0, x1⟩ := Ltr_atk (hB.below hbc) hi' hY.out k
    obtain ⟨b2, off2, rfl, hbb2, y0, y1⟩ := Ltr_atk (hC.below hbc) hi2 hZ.out k
    have hbz := hbc.size
    have i1 : (0 : Int) ≤ (i : Int) := by omega
    have i2 : (i : Int) < (x.length : Int) := by omega
    have i3 : (i : Int) < (p.length : Int) := by omega
    have k1 : (0 : Int) ≤ (k.val : Int) := by omega
    have k2 : (k.val : Int) < 3 := by have := k.isLt; omega
    have KS : Hid (∀ w', Below Wc.heap.size Wc w' → _) := Lib.hid (fun w' h => and5 (c2.below h c2.lt).one_.1 (d1.below h d1.lt).two.1 (d1.below h d1.lt).two.2 ((h.cell (p := ⟨b, off + i * 6 + k.val * 2, none⟩) (by show b < _; omega)).trans x0) ((h.cell (p := ⟨b, off + i * 6 + k.val * 2 + 1, none⟩) (by show b < _; omega)).trans x1))
    gi_wp2_with fail
    refine wpIn_region_maskB (f := 9) (k := 1) KS [2, 1, 2, 1, 2, 1, 1, 2, 0, 0] ?_
    simp only [pickH, pickT]
    refine wpHeads_r ?_
    refine wpHeads_t ?_
    refine wpHeads_r ?_
    refine wpHeads_t ?_
    refine wpHeads_r ?_
    refine wpHeads_t ?_
    refine wpHeads_t ?_
    refine wpHeads_r ?_
    refine wpHeads_nil ?_
    iterate 1 (refine wpTailS_cons (fun K hK => ?_); go_simp; (first | (fail) | skip); refine mask_go hK KS ?_; clear hK K)
    refine wpTailS_zero ?_
    go_wp2_with fail
    refine NoOut.normal ?_
    have D3 : Blk (Wc.alloc (.cells #[.int .i64 (Y.aAt k), .int .i64 (Y.bAt k)] 52)).drew Wc.heap.size 52 #[.int .i64 (Y.aAt k), .int .i64 (Y.bAt k)] := Blk.new Wc _ _ _ rfl
    have b8 : Below Wc.heap.size Wc (Wc.alloc (.cells #[.int .i64 (Y.aAt k), .int .i64 (Y.bAt k)] 52)).drew := bDr (bAl (bRefl _) _)
    generalize (Wc.alloc (.cells #[.int .i64 (Y.aAt k), .int .i64 (Y.bAt k)] 52)).drew = w8 at *
    have e1 := c1.below b8 c1.lt
    have e2 := c2.below b8 c2.lt
    have e3 := c3.below b8 c3.lt
    have e4 := c4.below b8 c4.lt
    have e5 := c5.below b8 c5.lt
    have e6 := d1.below b8 d1.lt
    have e7 := d2.below b8 d2.lt
    replace y0 := (b8.cell (p := ⟨b2, off2 + i * 6 + k.val * 2, none⟩) (by show b2 < _; omega)).trans y0
    replace y1 := (b8.cell (p := ⟨b2, off2 + i * 6 + k.val * 2 + 1, none⟩) (by show b2 < _; omega)).trans y1
    have hb8 := hbc.trans (b8.mono hbz)
    have kO := KeepsOthers.below b8
    have kK : Keeps (fun k => k < W.heap.size ∨ k = bp) Wc w8 := Keeps.of_below b8 (fun j hj => by have := c5.lt; omega)
    clear x0 x1 KS c1 c2 c3 d1 d2
    generalize Wc.heap.size = s1 at *
    have hz8 := hb8.size
    have KS : Hid (∀ w', Below w8.heap.size w8 w' → _) := Lib.hid (fun w' h => and10 (D3.below h D3.lt).two.1 (D3.below h D3.lt).two.2 (e7.below h e7.lt).two.1 (e7.below h e7.lt).two.2 (e1.below h e1.lt).one_.1 (e3.below h e3.lt).one_.1 (e6.below h e6.lt).two.1 (e6.below h e6.lt).two.2 ((h.cell (p := ⟨b2, off2 + i * 6 + k.val * 2, none⟩) (by show b2 < _; omega)).trans y0) ((h.cell (p := ⟨b2, off2 + i * 6 + k.val * 2 + 1, none⟩) (by show b2 < _; omega)).trans y1))
    have HXY : Hid (bareZ key x p ⟨i, k, hi⟩ = (decide (Y.aAt k = X.aAt k) && checkB key (X.aAt k) (mulL [X.bAt k, powV (Y.bAt k) (-1)]) (Z.aAt k) (Z.bAt k))) := by
      show _ = _
      unfold bareZ Pl.ltr
      dsimp only
      rw [List.getD_eq_getElem?_getD, List.getD_eq_getElem?_getD, hY.out, hZ.out]
      obtain ⟨_, rfl⟩ := List.getElem?_eq_some_iff.1 hX.out
      rfl
    gi_wp2_with fail
    by_cases hne : Y.aAt k = X.aAt k
    · have t : (Y.aAt k != X.aAt k) = false := by rw [hne]; simp
      have hia : inI (X.aAt k) := by
        have hXg : X.good = true := List.all_eq_true.1 hgl.out X (List.mem_of_getElem? hX.out)
        have := validB_rng (good_at hXg k).1
        exact ⟨by omega, by omega⟩
      have He5 := e5.lt
      cases hcb : checkB key (X.aAt k) (mulL [X.bAt k, powV (Y.bAt k) (-1)]) (Z.aAt k) (Z.bAt k)
      · have hfalse : Hid (v = false) := by
          show _ = _
          rw [Hv.out]
          exact bareAll_bad H2.out H4.out ⟨i, k, hi⟩ (by rw [HXY.out, hcb, Bool.and_false])
        have q4 : Hid (∀ w, ShaG w → Calls Tryd.prog 36 #[.int .i64 key, .int .i64 (X.aAt k), .int .i64 (mulL [X.bAt k, powV (Y.bAt k) (-1)]), .agg #[.int .i64 (Z.aAt k), .int .i64 (Z.bAt k)]] w (Ret (.bool false) w)) := fun w h => by
          have := equal_check w key (X.aAt k) (mulL [X.bAt k, powV (Y.bAt k) (-1)]) (Z.aAt k) (Z.bAt k) ⟨by omega, by omega⟩ hia (mulL_in _) h
          rw [hcb] at this
          exact this
        clear hcb hne hia
        refine wpIn_region_maskB (f := 26) (k := 5) KS [1, 2, 1, 2, 1, 1, 2, 1, 2, 1, 2, 1, 2, 0, 0, 0, 2, 1, 2, 1, 2, 1, 1, 2, 0, 0, 0] ?_
        simp only [pickH, pickT]
        refine wpHeads_t ?_
        refine wpHeads_r ?_
        refine wpHeads_t ?_
        refine wpHeads_r ?_
        refine wpHeads_t ?_
        refine wpHeads_t ?_
        refine wpHeads_r ?_
        refine wpHeads_t ?_
        refine wpHeads_r ?_
        refine wpHeads_t ?_
        refine wpHeads_r ?_
        refine wpHeads_t ?_
        refine wpHeads_r ?_
        refine wpHeads_r ?_
        refine wpHeads_t ?_
        refine wpHeads_r ?_
        refine wpHeads_t ?_
        refine wpHeads_r ?_
        refine wpHeads_t ?_
        refine wpHeads_t ?_
        refine wpHeads_r ?_
        refine wpHeads_nil ?_
        iterate 5 (refine wpTailS_cons (fun K hK => ?_); go_simp; (first | (go_at_call 36; (with_reducible refine (q4.out _ (hG.below (hb8.trans (Below.mono (by repeat (first | exact B1 | exact bRefl _ | refine bAl ?_ _ | refine bDr ?_)) hz8)))).mono ?_); rintro e w9 ⟨rfl, b9⟩; have B2 : Below w8.heap.size w8 w9 := bCall (by repeat (first | exact B1 | exact bRefl _ | refine bAl ?_ _ | refine bDr ?_)) b9) | (go_at_call 34; (with_reducible refine (equal_mul2 (X.bAt k) (powV (Y.bAt k) (-1)) _).mono ?_); rintro e w' ⟨rfl, rfl⟩) | (go_at_call 35; (with_reducible refine (equal_pow (Y.bAt k) (-1) _).mono ?_); rintro e w9 ⟨rfl, b9⟩; have B1 : Below w8.heap.size w8 w9 := bCall (by repeat (first | exact bRefl _ | refine bAl ?_ _ | refine bDr ?_)) b9) | skip); refine mask_go hK KS ?_; clear hK K)
        refine wpTailS_zero ?_
        go_wp2_with fail
        refine NoOut.normal ?_
        have h9 := hb8.trans (B2.mono hz8)
        replace b9 := B2
        clear B1 B2 q4 KS
        obtain ⟨k3, z3⟩ := (e4.below b9 e4.lt).one_
        gi_wp2_with fail
        exact ⟨kO.trans ((KeepsOthers.below b9).trans (KeepsOthers.setCell _ _ _)), bSet h9 (by show W.heap.size ≤ W.heap.size + 1 + 1 + 1; omega) _, ⟨(e4.below b9 e4.lt).set1 _, trivial⟩, rfl, hfalse⟩
      · have hbz' : Hid (bareZ key x p ⟨i, k, hi⟩ = true) := by show _ = _; rw [HXY.out, hcb, decide_eq_true hne]; rfl
        have q4 : Hid (∀ w, ShaG w → Calls Tryd.prog 36 #[.int .i64 key, .int .i64 (X.aAt k), .int .i64 (mulL [X.bAt k, powV (Y.bAt k) (-1)]), .agg #[.int .i64 (Z.aAt k), .int .i64 (Z.bAt k)]] w (Ret (.bool true) w)) := fun w h => by
          have := equal_check w key (X.aAt k) (mulL [X.bAt k, powV (Y.bAt k) (-1)]) (Z.aAt k) (Z.bAt k) ⟨by omega, by omega⟩ hia (mulL_in _) h
          rw [hcb] at this
          exact this
        clear hcb hne hia
        refine wpIn_region_maskB (f := 26) (k := 5) KS [1, 2, 1, 2, 1, 1, 2, 1, 2, 1, 2, 1, 2, 0, 0, 0, 2, 1, 2, 1, 2, 1, 1, 2, 0, 0, 0] ?_
        simp only [pickH, pickT]
        refine wpHeads_t ?_
        refine wpHeads_r ?_
        refine wpHeads_t ?_
        refine wpHeads_r ?_
        refine wpHeads_t ?_
        refine wpHeads_t ?_
        refine wpHeads_r ?_
        refine wpHeads_t ?_
        refine wpHeads_r ?_
        refine wpHeads_t ?_
        refine wpHeads_r ?_
        refine wpHeads_t ?_
        refine wpHeads_r ?_
        refine wpHeads_r ?_
        refine wpHeads_t ?_
        refine wpHeads_r ?_
        refine wpHeads_t ?_
        refine wpHeads_r ?_
        refine wpHeads_t ?_
        refine wpHeads_t ?_
        refine wpHeads_r ?_
        refine wpHeads_nil ?_
        iterate 5 (refine wpTailS_cons (fun K hK => ?_); go_simp; (first | (go_at_call 36; (with_reducible refine (q4.out _ (hG.below (hb8.trans (Below.mono (by repeat (first | exact B1 | exact bRefl _ | refine bAl ?_ _ | refine bDr ?_)) hz8)))).mono ?_); rintro e w9 ⟨rfl, b9⟩; have B2 : Below w8.heap.size w8 w9 := bCall (by repeat (first | exact B1 | exact bRefl _ | refine bAl ?_ _ | refine bDr ?_)) b9) | (go_at_call 34; (with_reducible refine (equal_mul2 (X.bAt k) (powV (Y.bAt k) (-1)) _).mono ?_); rintro e w' ⟨rfl, rfl⟩) | (go_at_call 35; (with_reducible refine (equal_pow (Y.bAt k) (-1) _).mono ?_); rintro e w9 ⟨rfl, b9⟩; have B1 : Below w8.heap.size w8 w9 := bCall (by repeat (first | exact bRefl _ | refine bAl ?_ _ | refine bDr ?_)) b9) | skip); refine mask_go hK KS ?_; clear hK K)
        refine wpTailS_zero ?_
        go_wp2_with fail
        refine NoOut.normal ?_
        have h9 := hb8.trans (B2.mono hz8)
        replace b9 := B2
        clear B1 B2 q4 KS
        gi_wp2_with fail
        refine ⟨kO.trans (KeepsOthers.below b9), kK.trans (Keeps.of_below b9 (fun j hj => by omega)), h9, ⟨e1.below b9 e1.lt, e2.below b9 e2.lt, e3.below b9 e3.lt, e4.below b9 e4.lt, e5.below b9 e5.lt, trivial⟩, Lib.hid ?_⟩
        intro z hz
        rcases List.mem_append.1 hz with hz | hz
        · exact hR.out z hz
        · obtain rfl : z = ⟨i, k, hi⟩ := by simpa using hz
          exact hbz'.out
    · have t : (Y.aAt k != X.aAt k) = true := by rw [bne_iff_ne]; exact hne
      have hfalse : Hid (v = false) := by
        show _ = _
        rw [Hv.out]
        exact bareAll_bad H2.out H4.out ⟨i, k, hi⟩ (by rw [HXY.out, decide_eq_false hne]; rfl)
      clear hne
      refine wpIn_region_maskB (f := 26) (k := 5) KS [1, 2, 1, 2, 1, 1, 1, 1, 1, 1, 1, 1, 1, 0, 0, 0, 1, 1, 1, 1, 1, 1, 1, 1, 0, 0, 0] ?_
      simp only [pickH, pickT]
      refine wpHeads_t ?_
      refine wpHeads_r ?_
      refine wpHeads_t ?_
      refine wpHeads_r ?_
      refine wpHeads_t ?_
      refine wpHeads_t ?_
      refine wpHeads_p ?_
      refine wpHeads_p ?_
      refine wpHeads_p ?_
      refine wpHeads_p ?_
      refine wpHeads_p ?_
      refine wpHeads_p ?_
      refine wpHeads_p ?_
      refine wpHeads_p ?_
      refine wpHeads_p ?_
      refine wpHeads_p ?_
      refine wpHeads_p ?_
      refine wpHeads_p ?_
      refine wpHeads_p ?_
      refine wpHeads_p ?_
      refine wpHeads_p ?_
      refine wpHeads_nil ?_
      iterate 5 (refine wpTailS_cons (fun K hK => ?_); go_simp; (first | (fail) | skip); refine mask_go hK KS ?_; clear hK K)
      refine wpTailS_zero ?_
      go_wp2_with fail
      refine NoOut.normal ?_
      obtain ⟨k3, z3⟩ := e4.one_
      gi_wp2_with fail
      exact ⟨kO.trans ((KeepsOthers.setCell _ _ _).trans (KeepsOthers.drew _)), bDr (bSet hb8 (by show W.heap.size ≤ W.heap.size + 1 + 1 + 1; omega) _), ⟨Blk.set1 (w := w8) e4 _, trivial⟩, rfl, hfalse⟩
  case done =>
    rintro D xs Wc hD hall hbc ⟨c1, c2, c3, c4, c5, _⟩ hR hd
    dsimp only at c4
    have Hv2 : Hid (v = true) := by show _ = _; rw [Hv.out]; exact bareAll_ok H2.out H4.out (fun z => hR.out z (hall z))
    clear c1 c2 c3 c5 BK BX BQ BV BP h7
    obtain ⟨k3, z3⟩ := c4.one_
    have hdd : (Wc.setCell ⟨W.heap.size + 1 + 1 + 1, 0, none⟩ (.bool true)).heap[D]? = some (.deferred (some [])) := by
      rw [Below.heap_setCell _ _ _ _ (fun e => ne_mark c4 hd rfl e.symm)]; exact hd
    have hE2 := (c4.set1 (.bool true)).put (o' := .deferred none) hdd rfl
    go_wp2_with fail
    refine leavesM_mark (by simp) hdd ?_
    have e1 := hE2.one_.1
    exact ⟨.bool true, by simp [results, Tryd.results14, go_sem, e1], ret_bool Hv2.out.symm, bPut (bSet hbc (by show W.heap.size ≤ W.heap.size + 1 + 1 + 1; omega) _) hD _⟩
  case stop =>
    rintro D c' pre Wc hD _ hbc ⟨c4, _⟩ ⟨rfl, hfalse⟩ hd
    dsimp only at c4
    clear BK BX BQ BV BP h7
    have hE2 := c4.put (o' := .deferred none) hd rfl
    go_wp2_with fail
    refine leavesM_mark (by simp) hd ?_
    have e1 := hE2.one_.1
    exact ⟨.bool false, by simp [results, Tryd.results14, go_sem, e1], ret_bool hfalse.out.symm, bPut hbc hD _⟩
end Go.Proofs.YtoeobcmmafncmaaDoor
