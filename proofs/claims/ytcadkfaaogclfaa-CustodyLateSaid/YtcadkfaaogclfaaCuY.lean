/-
  Custody: the iterator over a letter's events, walked.
-/
import Derived.Test.YtcadkfaaogclfaaCuC
import Derived.Test.YtcadkfaaogclfaaMarks
namespace Go.Proofs.Ytcadkfaaogclfaa
open Go.RowKit Go.Shelf
attribute [local go_sem] Oper.semAt_some

def Ev.agg (x : Ev) : Value := .agg #[.int .i64 x.letter, .int .i64 x.kind, .int .i64 x.time, .int .i64 x.office]

set_option maxHeartbeats 400000 in
theorem of_any (A : Option Addr) (n c : Nat) (t : Int) (w : World) :
    Calls Try.prog 23 #[.slice A n c, .int .i64 t] w fun r w' =>
      r = .returned (.func (.func 30) #[] #[.pointer (some ⟨w.heap.size, 0, none⟩), .pointer (some ⟨w.heap.size + 1, 0, none⟩)]) ∧ w' = (w.alloc (.cells #[.slice A n c] 22)).alloc (.cells #[.int .i64 t] 3) := by
  have hmf : ∀ (fn : Fn) (first cap : Array Value) (w : World), (Instr.makeFunc fn first cap).run Try.prog w = .ok (.func fn first cap) w := fun _ _ _ _ => rfl
  go_enter Try.func23, Try.ntmps23
  go_wp2
  go_ret
  exact ⟨rfl, rfl⟩

/-- The events of a letter, of the first k. -/
def ofUpto (l : List Ev) (t : Int) (k : Nat) : List Ev := (l.take k).filter fun x => x.letter == t
theorem ofUpto_succ {l : List Ev} {k : Nat} {x : Ev} (hx : l[k]? = some x) (t : Int) : ofUpto l t (k + 1) = ofUpto l t k ++ (if (x.letter == t) = true then [x] else []) := by
  obtain ⟨hk, rfl⟩ := List.getElem?_eq_some_iff.1 hx
  unfold ofUpto
  rw [List.take_succ_eq_append_getElem hk, List.filter_append, List.filter_cons]
  rfl
theorem ofUpto_len (l : List Ev) (t : Int) (k : Nat) : (ofUpto l t k).length ≤ k := by
  unfold ofUpto
  exact Nat.le_trans (List.length_filter_le _ _) (List.length_take_le _ _)

set_option maxRecDepth 100000 in
set_option maxHeartbeats 2000000 in
theorem of_loop (L b1 b2 n0 c : Nat) (S : Nat → Prop) (A : Option Addr) (l : List Ev) (t : Int) (hn : l.length ≤ 4096) (J Jx : List Ev → World → Prop) (W : World) (hJab : AbidesFrom W.heap.size J)
    (hY : ∀ pre x W1, J pre W1 → pre.length < l.length → YieldAt Fence.wide (2 + 1 - 1) Try.prog L #[x.agg] W1 fun e W' =>
      (e = .returned (.bool true) ∧ J (pre ++ [x]) W' ∧ Keeps S W1 W') ∨ (e = .returned (.bool false) ∧ Jx (pre ++ [x]) W'))
    (h2 : S b2) (hn0 : ∀ k, k < n0 → S k) (hS : ∀ k, S k → k < W.heap.size)
    (hb1 : W.cell? ⟨b1, 0, none⟩ = some (.slice A l.length c)) (hb2 : W.cell? ⟨b2, 0, none⟩ = some (.int .i64 t)) (hA : Rd W n0 4 A l.length (l.flatMap Ev.cells)) (h0 : J [] W) :
    CallsIn Fence.wide (2 + 1) Try.prog 30 #[.func (.yield L) #[] #[], .pointer (some ⟨b1, 0, none⟩), .pointer (some ⟨b2, 0, none⟩)] W fun e W' => (∃ v, e = .returned v) ∧
      ((∃ ys, ys = ofUpto l t l.length ∧ J ys W') ∨ (∃ pre, True ∧ Jx pre W')) := by
  refine callsIn_of_wp Try.func30 rfl trivial ?_ rfl
  simp only [Try.ntmps30, List.size_toArray, List.length_cons, List.length_nil, Nat.reduceAdd, Nat.reduceSub, Array.replicate_succ, Array.replicate_zero, List.push_toArray, List.append_toArray, List.nil_append, List.cons_append]
  gi_wp2
  gi_loopw [8] (fun i wr => ∃ k : Nat, k ≤ l.length ∧ i = .int .i64 k ∧ J (ofUpto l t k) wr ∧ Keeps S W wr) (fun i _ => l.length - (intOf i).toNat)
  case atStart => exact ⟨0, Nat.zero_le _, rfl, h0, Keeps.refl _ _⟩
  case round =>
    obtain ⟨k, hk, rfl, hJs, hnx⟩ := hrel
    by_cases hlt : k < l.length
    · have hx : ∃ x, l[k]? = some x := ⟨_, List.getElem?_eq_getElem hlt⟩
      obtain ⟨x, hx0⟩ := hx
      have hx := Lib.hid hx0
      clear hx0
      obtain ⟨b, off, rfl, hbb, c0, c1, c2, c3⟩ := Ev_at (hA.keeps hnx hn0) hlt hx.out
      have d2 : wr.cell? ⟨b2, 0, none⟩ = some (.int .i64 t) := (hnx.cell (p := ⟨b2, 0, none⟩) h2).trans hb2
      have hb2r : b2 < wr.heap.size := Nat.lt_of_lt_of_le (hS _ h2) hnx.size
      have hSr : ∀ k, S k → k < wr.heap.size := fun k hk => Nat.lt_of_lt_of_le (hS _ hk) hnx.size
      have HSr := Lib.hid hSr
      clear hSr
      have hsu := Lib.hid (ofUpto_succ hx.out t)
      by_cases hxt : x.letter = t
      · have hxt' : (x.letter == t) = true := by simpa using hxt
        have hs1 : Hid (ofUpto l t (k + 1) = ofUpto l t k ++ [x]) := by show _ = _; rw [hsu.out, if_pos hxt']
        have hlen : (ofUpto l t k).length < l.length := Nat.lt_of_le_of_lt (ofUpto_len l t k) hlt
        have hJa : J (ofUpto l t k) (wr.alloc (.cells #[.int .i64 x.letter, .int .i64 x.kind, .int .i64 x.time, .int .i64 x.office] 36)) :=
          hJab _ _ _ none hJs (World.grownBy_alloc wr _ none) (fun r e => by cases e)
        obtain ⟨fn, tmps, assign, body, hy, hR⟩ := hY _ x _ hJa hlen
        dsimp only [Ev.agg] at hy
        clear hxt
        gi_wp2
        refine hR.mono ?_
        rintro e W3 (⟨rfl, hJ3, hk3⟩ | ⟨rfl, hJx3⟩)
        · gi_wp2
          go_roundw
          case rel => exact ⟨k + 1, by omega, by simp, by rw [hs1.out]; exact hJ3, (hnx.alloc HSr.out _).trans hk3⟩
          case measure => simp [intOf]; omega
        · gi_wp2
          refine bodyPost_ret (results_none rfl _ _ _) rfl ?_
          exact ⟨⟨_, rfl⟩, .inr ⟨_, trivial, hJx3⟩⟩
      · have hxt' : (x.letter == t) = false := by simpa using hxt
        have hs1 : Hid (ofUpto l t (k + 1) = ofUpto l t k) := by show _ = _; rw [hsu.out, if_neg (by simpa using hxt)]; simp
        clear hxt
        gi_wp2
        all_goals
          refine ⟨fun _ _ => trivial, ?_⟩
          gi_wp2
          go_roundw
          case rel => exact ⟨k + 1, by omega, by simp, by rw [hs1.out]; exact hJab _ _ _ none hJs (World.grownBy_alloc wr _ none) (fun r e => by cases e), hnx.alloc HSr.out _⟩
          case measure => simp [intOf]; omega
    · gi_wp2
      go_end0
      exact ⟨⟨_, rfl⟩, .inl ⟨_, by rw [show k = l.length by omega], hJs⟩⟩

/-- The iterator has its contract: all events of the letter, in order. -/
theorem of_stops_any (b1 b2 n0 c : Nat) (S : Nat → Prop) (A : Option Addr) (l : List Ev) (t : Int) (hn : l.length ≤ 4096) (w : World) (h1 : S b1) (h2 : S b2) (hn0 : ∀ k, k < n0 → S k) (hS : ∀ k, S k → k < w.heap.size)
    (hb1 : w.cell? ⟨b1, 0, none⟩ = some (.slice A l.length c)) (hb2 : w.cell? ⟨b2, 0, none⟩ = some (.int .i64 t)) (hA : Rd w n0 4 A l.length (l.flatMap Ev.cells)) :
    SeqStopsK Fence.wide (2 + 1) Try.prog 30 #[.pointer (some ⟨b1, 0, none⟩), .pointer (some ⟨b2, 0, none⟩)] (fun x : Ev => #[x.agg]) (Keeps S) (fun ys => ys = ofUpto l t l.length) (fun _ => True) l.length w := by
  intro L J Jx W hW hJ _ hY h0
  have hk : Keeps S w W := Keeps.of_below hW hS
  exact of_loop L b1 b2 n0 c S A l t hn J Jx W hJ hY h2 hn0 (fun k hk' => Nat.lt_of_lt_of_le (hS k hk') hW.size) ((hk.cell (p := ⟨b1, 0, none⟩) h1).trans hb1) ((hk.cell (p := ⟨b2, 0, none⟩) h2).trans hb2) (hA.keeps hk hn0) h0

end Go.Proofs.Ytcadkfaaogclfaa
