/- Plain: how the reference reads and writes numbers. -/
import Derived.Test.YtmbopkcmbiommaaGreatDoorRac
import Derived.Test.YtmbopkcmbiommaaGreatDoorRap
set_option maxRecDepth 1000000
set_option maxHeartbeats 16000000
namespace Go.Proofs.YtmbopkcmbiommaaGreatDoor
open Go
def magN : Nat → By → Nat
  | n, [] => n
  | n, c :: r => magN (if 48 ≤ c.toNat ∧ c.toNat ≤ 57 then 10 * n + (c.toNat - 48) else n) r
def refN (s : By) : Int := if s.head? = some 45 then -(magN 0 (s.take 15) : Int) else (magN 0 (s.take 15) : Int)
def refOk (s : By) : Bool := decide (s.length ≤ 15) && (okN (refN s) && decide (itB (refN s) = s))
theorem magN_app : ∀ (a b : By) (n : Nat), magN n (a ++ b) = magN (magN n a) b
  | [], _, _ => rfl
  | _ :: a, b, _ => magN_app a b _
theorem magN_dig {n d : Nat} (h : d < 10) : magN n [digC d] = 10 * n + d := by
  show (if 48 ≤ (digC d).toNat ∧ (digC d).toNat ≤ 57 then 10 * n + ((digC d).toNat - 48) else n) = _
  rw [digC_nat h, if_pos (by omega)]
  omega
theorem magN_decF : ∀ (f u : Nat), u < 10 ^ (f + 1) → magN 0 (decF f u) = u
  | 0, u, h => by
    have h' : u < 10 := by simpa using h
    unfold decF
    rw [Nat.mod_eq_of_lt h', magN_dig h']
    omega
  | f + 1, u, h => by
    unfold decF
    split
    · rename_i h1
      rw [magN_dig h1]
      omega
    · rw [magN_app, magN_decF f (u / 10) (by rw [Nat.pow_succ] at h; omega), magN_dig (Nat.mod_lt _ (by omega))]
      omega
theorem decF_lenH : ∀ (f u k : Nat), u < 10 ^ (k + 1) → (decF f u).length ≤ k + 1
  | 0, u, k, _ => by unfold decF; simp
  | f + 1, u, k, h => by
    unfold decF
    split
    · simp
    · rename_i h1
      cases k with
      | zero => simp at h; omega
      | succ k =>
        rw [List.length_append, List.length_singleton]
        have := decF_lenH f (u / 10) k (by rw [Nat.pow_succ] at h; omega)
        omega
theorem head_dig {f u : Nat} {c : UInt8} (h : (decF f u).head? = some c) : c ≠ 45 := by
  have := decF_dig f u c (List.mem_of_head? h)
  unfold isD at this
  intro e
  subst e
  exact absurd this.1 (by decide)
theorem refN_it {n : Int} (h : okN n = true) : refN (itB n) = n ∧ (itB n).length ≤ 15 := by
  rw [okN_iff] at h
  have hp : (10 : Nat) ^ (12 + 1) = 10000000000000 := by decide
  have hq : (10 : Nat) ^ (20 + 1) = 1000000000000000000000 := by decide
  unfold itB
  split
  · have hl := decF_lenH 20 n.natAbs 12 (by omega)
    refine ⟨?_, by simp; omega⟩
    unfold refN
    rw [if_pos (show (45 :: decF 20 n.natAbs).head? = some 45 from rfl), List.take_of_length_le (by simp; omega)]
    show -((magN (if 48 ≤ (45 : UInt8).toNat ∧ (45 : UInt8).toNat ≤ 57 then 10 * 0 + ((45 : UInt8).toNat - 48) else 0) (decF 20 n.natAbs) : Nat) : Int) = n
    rw [if_neg (by decide), magN_decF 20 _ (by omega)]
    omega
  · have hl := decF_lenH 20 n.toNat 12 (by omega)
    refine ⟨?_, by omega⟩
    unfold refN
    rw [if_neg (fun e => head_dig e rfl), List.take_of_length_le (by omega), magN_decF 20 _ (by omega)]
    omega
theorem refOk_iff {s : By} : numO s = if refOk s = true then some (refN s) else none := by
  cases h : numO s with
  | some v =>
    obtain ⟨h1, h2⟩ := numO_some h
    obtain ⟨e1, e2⟩ := refN_it h1
    rw [h2] at e1 e2
    have : refOk s = true := by
      unfold refOk
      rw [e1, h1, h2]
      simp [e2]
    rw [if_pos this, e1]
  | none =>
    rw [if_neg]
    intro hr
    unfold refOk at hr
    simp only [Bool.and_eq_true, decide_eq_true_eq] at hr
    have := numO_it hr.2.1
    rw [hr.2.2, h] at this
    cases this
theorem itB_neg {n : Int} (h : n < 0) (h2 : -9223372036854775808 < n) : itB n = 45 :: itB (-n) := by
  unfold itB
  rw [if_pos h, if_neg (by omega), show n.natAbs = (-n).toNat by omega]
theorem itB_one {n : Int} (h : 0 ≤ n) (h2 : n < 10) : itB n = [digC n.toNat] := by
  unfold itB
  rw [if_neg (by omega)]
  show (if n.toNat < 10 then [digC n.toNat] else _) = _
  rw [if_pos (by omega)]
theorem decF_moreH : ∀ (f u : Nat), u < 10 ^ (f + 1) → decF (f + 1) u = decF f u
  | 0, u, h => by
    have h' : u < 10 := by simpa using h
    show (if u < 10 then [digC u] else _) = [digC (u % 10)]
    rw [if_pos h', Nat.mod_eq_of_lt h']
  | f + 1, u, h => by
    show (if u < 10 then [digC u] else decF (f + 1) (u / 10) ++ [digC (u % 10)]) = if u < 10 then [digC u] else decF f (u / 10) ++ [digC (u % 10)]
    rw [decF_moreH f (u / 10) (by rw [Nat.pow_succ] at h; omega)]
theorem itB_ten {n : Int} (h : 10 ≤ n) (h2 : n < 9223372036854775808) : itB n = itB (n / 10) ++ itB (n % 10) := by
  have hq : (10 : Nat) ^ (19 + 1) = 100000000000000000000 := by decide
  rw [itB_one (n := n % 10) (by omega) (by omega)]
  unfold itB
  rw [if_neg (by omega), if_neg (by omega)]
  show (if n.toNat < 10 then _ else decF 19 (n.toNat / 10) ++ [digC (n.toNat % 10)]) = _
  rw [if_neg (by omega), show (n / 10).toNat = n.toNat / 10 by omega, show (n % 10).toNat = n.toNat % 10 by omega, decF_moreH 19 _ (by omega)]
end Go.Proofs.YtmbopkcmbiommaaGreatDoor
namespace Go.Proofs.YtmbopkcmbiommaaGreatDoor
open Go.RowKit
def PanW : Ending := .panicked [{ v := .iface 151 (.agg #[]), recovered := false }]
theorem want_yes (w : World) : Calls Tryz.prog 55 #[.bool true] w (Same (.tuple #[]) w) := by
  go_enter Tryz.func55, Tryz.ntmps55
  go_wp2
  exact bodyPost_ret (results_none rfl _ _ _) rfl ⟨rfl, rfl⟩
theorem want_no (w : World) : Calls Tryz.prog 55 #[.bool false] w (fun r w' => r = PanW ∧ w = w') := by
  go_enter Tryz.func55, Tryz.ntmps55
  go_wp2
  exact ⟨rfl, rfl, rfl⟩
theorem assert_wrong (w : World) : (Instr.typeAssert (.iface 151 (.agg #[])) 20 151 true).run Tryz.prog w = .ok (.tuple #[.agg #[], .bool true]) w := by kernel_rfl
theorem rep_panic (b : Nat) (old : Bool) (older : List PanicEntry) (w : World) (B : Blk w b 4 #[.bool old]) :
    CallsD Tryz.prog 42 #[.pointer (some ⟨b, 0, none⟩)] (.panicking ({ v := .iface 151 (.agg #[]), recovered := false } :: older)) w fun r u' w' =>
      r = .returned (.tuple #[]) ∧ u' = .panicking ({ v := .iface 151 (.agg #[]), recovered := true } :: older) ∧ w' = (w.alloc (.cells #[] 151)).setCell ⟨b, 0, none⟩ (.bool false) := by
  have hta := assert_wrong
  have hc := (B.alloc (.cells #[] 151)).cell 0
  have hz := (B.alloc (.cells #[] 151)).frozen 0
  refine callsD_of_wpS Tryz.func42 rfl fun c₀ cs hu => ?_
  simp only [Tryz.ntmps42, List.size_toArray, List.length_cons, List.length_nil, Nat.reduceAdd, Nat.reduceSub, Array.replicate_succ,
     Array.replicate_zero, List.push_toArray, List.append_toArray, List.nil_append, List.cons_append]
  apply wpS_seq
  apply wpS_region
  simp [wpOpsS, go_sem, recoverD, hu, Exit.thenS]
  refine wpS_of_wp ?_
  go_wp2
  exact ⟨rfl, _, rfl, .tuple #[], by simp [results, Tryz.results42], rfl, rfl, rfl⟩
theorem rep_idle (p : Addr) (w : World) :
    CallsD Tryz.prog 42 #[.pointer (some p)] .returning w fun r u' w' =>
      r = .returned (.tuple #[]) ∧ u' = .returning ∧ w' = w := by
  refine callsD_of_wpS Tryz.func42 rfl fun c₀ cs hu => ?_
  simp only [Tryz.ntmps42, List.size_toArray, List.length_cons, List.length_nil, Nat.reduceAdd, Nat.reduceSub, Array.replicate_succ,
     Array.replicate_zero, List.push_toArray, List.append_toArray, List.nil_append, List.cons_append]
  apply wpS_seq
  apply wpS_region
  simp [wpOpsS, go_sem, recoverD, hu, Exit.thenS]
  refine wpS_of_wp ?_
  go_wp2
  exact ⟨rfl, .returning, by cases c₀; simp_all, .tuple #[], by simp [results, Tryz.results42], rfl, rfl, rfl⟩
theorem rdoor_idle {fn : Func} {tmps : Array Value} {R : Ending → World → Prop} (p : Addr) (w : World) (v : Value)
    (hr : (results fn tmps).run Tryz.prog w = .ok v w) (h : R (.returned v) w) :
    Leaves Tryz.prog fn tmps R [{ target := .fn (.func 42) #[], args := #[.pointer (some p)] }] .returning w := by
  refine leaves_cons (f := 42) (args := #[.pointer (some p)]) (by simp) (by simp [go_sem]) ?_
  refine (rep_idle p w).mono ?_
  rintro r u' w' ⟨rfl, rfl, rfl⟩
  exact ⟨v, hr, h⟩
theorem rdoor_panic {fn : Func} {tmps : Array Value} {R : Ending → World → Prop} (b : Nat) (old : Bool) (w : World) (v : Value) (B : Blk w b 4 #[.bool old])
    (hr : (results fn tmps).run Tryz.prog ((w.alloc (.cells #[] 151)).setCell ⟨b, 0, none⟩ (.bool false)) = .ok v ((w.alloc (.cells #[] 151)).setCell ⟨b, 0, none⟩ (.bool false))) (h : R (.returned v) ((w.alloc (.cells #[] 151)).setCell ⟨b, 0, none⟩ (.bool false))) :
    Leaves Tryz.prog fn tmps R [{ target := .fn (.func 42) #[], args := #[.pointer (some ⟨b, 0, none⟩)] }] (.panicking [{ v := .iface 151 (.agg #[]), recovered := false }]) w := by
  refine leaves_cons (f := 42) (args := #[.pointer (some ⟨b, 0, none⟩)]) (by simp) (by simp [go_sem]) ?_
  refine (rep_panic b old [] w B).mono ?_
  rintro r u' w' ⟨rfl, rfl, rfl⟩
  exact ⟨v, hr, h⟩
end Go.Proofs.YtmbopkcmbiommaaGreatDoor
