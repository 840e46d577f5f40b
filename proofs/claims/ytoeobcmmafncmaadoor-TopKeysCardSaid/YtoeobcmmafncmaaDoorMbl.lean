/-
  epochs: Check where it succeeds, of; walked.
-/
import Derived.Test.YtoeobcmmafncmaaDoorMbj
import Derived.Test.YtoeobcmmafncmaaDoorMal
import Derived.Test.YtoeobcmmafncmaaDoorMbk
namespace Go.Proofs.YtoeobcmmafncmaaDoor
open Go.RowKit
attribute [local go_sem] Oper.semAt_some

theorem Ep.cl_len (e : Ep) : e.cl.length = 3 := rfl
theorem ep_at {w : World} {B n k : Nat} {A : Option Addr} {l : List Ep} {e : Ep} (h : Rd w B 3 A n (l.flatMap Ep.cl)) (hn : k < n) (hx : l[k]? = some e) :
    ∃ b off, A = some ⟨b, off, none⟩ ∧ b < B ∧ w.cell? ⟨b, off + k * 3, none⟩ = some (.int .i64 e.o) ∧ w.cell? ⟨b, off + k * 3 + 1, none⟩ = some (.int .i64 e.f) ∧ w.cell? ⟨b, off + k * 3 + 2, none⟩ = some (.int .i64 e.k) := by
  obtain ⟨b, off, hA, hb, hc⟩ := h.2 (by omega)
  have h0 := hc (k * 3 + 0) _ ((flat_at Ep.cl_len l k 0 e hx (by omega)).trans rfl)
  have h1 := hc (k * 3 + 1) _ ((flat_at Ep.cl_len l k 1 e hx (by omega)).trans rfl)
  have h2 := hc (k * 3 + 2) _ ((flat_at Ep.cl_len l k 2 e hx (by omega)).trans rfl)
  exact ⟨b, off, hA, hb, by simpa using h0, by rw [Nat.add_assoc]; exact h1, by rw [Nat.add_assoc]; exact h2⟩
set_option maxRecDepth 100000 in
set_option maxHeartbeats 2000000 in
theorem ep_check (A : Option Addr) (c : Nat) (l : List Ep) (W : World) (hA : Rd W W.heap.size 3 A l.length (l.flatMap Ep.cl)) (hl : epsOk l) : Calls Tryd.prog 9 #[.slice A l.length c] W (Ret (.int .i64 0) W) := by
  obtain ⟨h256, hgood, hasc⟩ := hl
  replace hasc := Lib.hid hasc
  go_enter Tryd.func9, Tryd.ntmps9
  go_wp2_with fail
  go_loopw [2, 10] (fun u i wr => ∃ k : Nat, k ≤ l.length ∧ u = .int .i64 0 ∧ i = .int .i64 k ∧ Below W.heap.size W wr) (fun _ i _ => l.length - (intOf i).toNat)
  case atStart => exact ⟨0, Nat.zero_le _, rfl, rfl, bRefl W⟩
  case round =>
    obtain ⟨k, hk, rfl, rfl, hb⟩ := hrel
    by_cases hlt : k < l.length
    · obtain ⟨e, he⟩ : ∃ e, Hid (l[k]? = some e) := ⟨_, Lib.hid (List.getElem?_eq_getElem hlt)⟩
      obtain ⟨b, off, hAe, hbb, d0, d1, d2⟩ := ep_at (hA.below hb) hlt he.out
      obtain ⟨⟨o0, o1⟩, ⟨f0, f1⟩, k0, kv⟩ := hgood e (List.mem_of_getElem? he.out)
      have k1 : (e.k == 1) = false := by rw [beq_eq_false_iff_ne]; exact k0
      have hm : ¬ (if e.o < e.f then e.o else e.f) < 0 := by split <;> omega
      have hm2 : ¬ (if e.f < e.o then e.f else e.o) < 0 := by split <;> omega
      subst hAe
      clear k0 hm2
      have q := fun w => group_valid e.k w
      rw [kv] at q
      go_upto_region 8 with (go_at_call 25; (with_reducible refine (q _).mono ?_); rintro e2 w2 ⟨rfl, rfl⟩)
      have hb2 := bAl hb (.cells #[.int .i64 e.o, .int .i64 e.f, .int .i64 e.k] 43)
      have hbs := hb.size
      by_cases h0 : 0 < k
      · obtain ⟨j, rfl⟩ : ∃ j, k = j + 1 := ⟨k - 1, by omega⟩
        obtain ⟨p, hp⟩ : ∃ p, Hid (l[j]? = some p) := ⟨_, Lib.hid (List.getElem?_eq_getElem (by omega))⟩
        obtain ⟨b2, off2, hA2, -, g0, g1, -⟩ := ep_at (hA.below hb) (show j < l.length by omega) hp.out
        injection hA2 with hA2
        injection hA2 with e1 e2
        subst e1; subst e2
        have hlt2 := hasc.out j p e hp.out he.out
        have a1 : (e.o == p.o) = false := by rw [beq_eq_false_iff_ne]; omega
        have a2 : decide (e.o < p.o) = false := decide_eq_false (by omega)
        have a3 : decide ((0 : Int) < (j : Int) + 1) = true := decide_eq_true (by omega)
        have a4 : IntKind.i64.wrap ((j : Int) + 1 - 1) = (j : Int) := by rw [IntKind.wrap_i64]; omega
        have a6 : IntKind.i64.wrap (j : Int) = (j : Int) := by rw [IntKind.wrap_i64]; omega
        have a5 : (j : Int) < (l.length : Int) := by omega
        have hbw : b < wr.heap.size := by omega
        have hbn : ¬ b = wr.heap.size := by omega
        have a7 : (0 : Int) ≤ (j : Int) := by omega
        have HL := Lib.hid hlt
        clear hk hlt h0 d0 d1 d2
        go_quiet (fail)
        go_wp2_with fail
        have hlt := HL.out
        clear a4 a6
        exact ⟨⟨j + 1 + 1, by omega, rfl, by go_num, bDrN hb2 _⟩, by simp [intOf]; omega⟩
      · have hz : decide ((0 : Int) < (k : Int)) = false := decide_eq_false (by omega)
        go_quiet (fail)
        go_wp2_with fail
        exact ⟨⟨k + 1, by omega, rfl, by go_num, bDrN hb2 _⟩, by simp [intOf]; omega⟩
    · go_wp2_with fail
      go_ret
      exact ⟨rfl, hb⟩

theorem of_any (A : Option Addr) (n c : Nat) (o : Int) (w : World) :
    Calls Tryd.prog 30 #[.slice A n c, .int .i64 o] w fun r w' =>
      r = .returned (.func (.func 54) #[] #[.pointer (some ⟨w.heap.size, 0, none⟩), .pointer (some ⟨w.heap.size + 1, 0, none⟩)]) ∧ w' = (w.alloc (.cells #[.slice A n c] 40)).alloc (.cells #[.int .i64 o] 3) := by
  have hmf : ∀ (fn : Fn) (first cap : Array Value) (w : World), (Instr.makeFunc fn first cap).run Tryd.prog w = .ok (.func fn first cap) w := fun _ _ _ _ => rfl
  go_enter Tryd.func30, Tryd.ntmps30
  go_wp2
  go_ret
  exact ⟨rfl, rfl⟩
/-- The epochs of an office. -/
def ofL (o : Int) (l : List Ep) : List Ep := l.filter fun e => decide (e.o = o)
theorem ofL_yes {o : Int} {l : List Ep} {k : Nat} {e : Ep} (h : l[k]? = some e) (ho : e.o = o) : ofL o (l.take (k + 1)) = ofL o (l.take k) ++ [e] := by
  obtain ⟨hk, rfl⟩ := List.getElem?_eq_some_iff.1 h
  unfold ofL
  rw [List.take_succ_eq_append_getElem hk, List.filter_append]
  simp [ho]
theorem ofL_no {o : Int} {l : List Ep} {k : Nat} {e : Ep} (h : l[k]? = some e) (ho : e.o ≠ o) : ofL o (l.take (k + 1)) = ofL o (l.take k) := by
  obtain ⟨hk, rfl⟩ := List.getElem?_eq_some_iff.1 h
  unfold ofL
  rw [List.take_succ_eq_append_getElem hk, List.filter_append]
  simp [ho]
theorem ofL_le (o : Int) (l : List Ep) (k : Nat) : ofL o (l.take k) <+: ofL o l := by
  have h : ofL o l = ofL o (l.take k) ++ ofL o (l.drop k) := by unfold ofL; rw [← List.filter_append, List.take_append_drop]
  exact ⟨_, h.symm⟩
def Ep.agg (e : Ep) : Value := .agg #[.int .i64 e.o, .int .i64 e.f, .int .i64 e.k]
set_option maxRecDepth 100000 in
set_option maxHeartbeats 4000000 in
theorem of_stops (bp bo B : Nat) (K : Nat → Prop) (hbp : K bp) (hbo : K bo) (A : Option Addr) (c : Nat) (o : Int) (l : List Ep) (w : World) (hKB : ∀ k, k < B → K k) (hB : Blk w bp 40 #[.slice A l.length c]) (hO : Blk w bo 3 #[.int .i64 o])
    (hA : Rd w B 3 A l.length (l.flatMap Ep.cl)) (hBw : B ≤ w.heap.size) (hn : l.length ≤ 256) :
    SeqT (fun _ => False) (2 + 1) Tryd.prog 54 #[.pointer (some ⟨bp, 0, none⟩), .pointer (some ⟨bo, 0, none⟩)] (fun e : Ep => #[e.agg]) (KeepsC K) (fun ys => ys = ofL o l) (fun pre => pre <+: ofL o l) 256 w := by
  intro L J Jx W hW hJ _ hY h0
  replace hB := hB.below hW hB.lt
  replace hO := hO.below hW hO.lt
  replace hA := hA.below (hW.mono hBw)
  have hBW : B ≤ W.heap.size := Nat.le_trans hBw hW.size
  clear hW
  refine callsIn_of_wp Tryd.func54 rfl trivial ?_ rfl
  simp only [Tryd.ntmps54, List.size_toArray, List.length_cons, List.length_nil, Nat.reduceAdd, Nat.reduceSub, Array.replicate_succ, Array.replicate_zero, List.push_toArray, List.append_toArray, List.nil_append, List.cons_append]
  have c1 : W.cell? ⟨bp, 0, none⟩ = some (.slice A l.length c) := hB.cell 0
  gi_wp2
  gi_loopw [8] (fun i wr => ∃ k : Nat, i = .int .i64 k ∧ k ≤ l.length ∧ W.heap.size ≤ wr.heap.size ∧ Blk wr bp 40 #[.slice A l.length c] ∧ Blk wr bo 3 #[.int .i64 o] ∧ Rd wr B 3 A l.length (l.flatMap Ep.cl) ∧ J (ofL o (l.take k)) wr) (fun i _ => l.length - (intOf i).toNat)
  case atStart => exact ⟨0, rfl, Nat.zero_le _, Nat.le_refl _, hB, hO, hA, h0⟩
  case round =>
    clear hB hO h0 c1 hA
    obtain ⟨k, rfl, hk, hsz, hB, hO, hA, hJ1⟩ := hrel
    by_cases hlt : k < l.length
    · obtain ⟨e, he⟩ : ∃ e, Hid (l[k]? = some e) := ⟨_, Lib.hid (List.getElem?_eq_getElem hlt)⟩
      obtain ⟨b, off, rfl, hbb, d0, d1, d2⟩ := ep_at hA hlt he.out
      have o0 : wr.cell? ⟨bo, 0, none⟩ = some (.int .i64 o) := hO.cell 0
      have hol := hO.lt
      have hb2 := bAl (bRefl wr) (.cells #[.int .i64 e.o, .int .i64 e.f, .int .i64 e.k] 43)
      have hJ2 := hJ.1 _ _ _ none hJ1 (grownBy_below hb2 none) (by intro r e; cases e)
      have hB2 := hB.below hb2 hB.lt
      have hO2 := hO.below hb2 hO.lt
      have hA2 := hA.below (hb2.mono (by omega))
      have hs2 := Nat.le_trans hsz hb2.size
      by_cases hoo : e.o = o
      · have hs : Hid (ofL o (l.take (k + 1)) = ofL o (l.take k) ++ [e]) := Lib.hid (ofL_yes he.out hoo)
        have hlen : (ofL o (l.take k)).length < 256 := by
          have := List.length_filter_le (fun e : Ep => decide (e.o = o)) (l.take k)
          have h2 := List.length_take_le k l
          unfold ofL; omega
        have hle := ofL_le o l (k + 1)
        rw [hs.out] at hle
        obtain ⟨fn, tmps, assign, body, hy, hR⟩ := hY _ e _ hJ2 hlen
        subst hoo
        unfold Ep.agg at hy
        clear hY
        gi_wp2
        refine hR.mono ?_
        rintro e2 W3 (⟨rfl, hJ3, hk3⟩ | ⟨rfl, hJx3⟩)
        · have hB3 := hk3.blk hbp hB2
          have hO3 := hk3.blk hbo hO2
          have hA3 := hk3.rd hKB hA2
          have hs3 := Nat.le_trans hs2 hk3.1
          clear hy hB2 hA2 hB hA hO hO2
          gi_wp2
          exact ⟨⟨k + 1, by go_num, by omega, hs3, hB3, hO3, hA3, by rw [hs.out]; exact hJ3⟩, by simp [intOf]; omega⟩
        · gi_wp2
          refine bodyPost_ret (results_none rfl _ _ _) rfl ?_
          exact ⟨⟨_, rfl⟩, .inr ⟨_, hle, hJx3⟩⟩
      · have hs : Hid (ofL o (l.take (k + 1)) = ofL o (l.take k)) := Lib.hid (ofL_no he.out hoo)
        have hne : (e.o == o) = false := by rw [beq_eq_false_iff_ne]; exact hoo
        clear hY hoo
        gi_wp2
        refine ⟨fun _ h => (by cases h), ?_⟩
        gi_wp2
        exact ⟨⟨k + 1, by go_num, by omega, hs2, hB2, hO2, hA2, by rw [hs.out]; exact hJ2⟩, by simp [intOf]; omega⟩
    · have hkn : Hid (ofL o (l.take k) = ofL o l) := Lib.hid (by rw [List.take_of_length_le (by omega)])
      gi_wp2
      go_end0
      exact ⟨⟨_, rfl⟩, .inl ⟨_, hkn.out, hJ1⟩⟩
end Go.Proofs.YtoeobcmmafncmaaDoor
