/-
  Custody: caught (recover) and Check, walked.
-/
import Derived.Test.YtcadkfaaogclfaaCuF
namespace Go.Proofs.Ytcadkfaaogclfaa
open Go.RowKit

theorem assert_errno (e : Int) (w : World) : (Instr.typeAssert (.iface 26 (.int .i64 e)) 20 26 true).run Try.prog w = .ok (.tuple #[.int .i64 e, .bool true]) w := by kernel_rfl

set_option maxHeartbeats 400000 in
theorem caught_panic (p : Addr) (e old : Int) (older : List PanicEntry) (w : World) (hc : w.cell? p = some (.int .i64 old)) (hz : w.frozen? p = false) :
    CallsD Try.prog 19 #[.pointer (some p)] (.panicking ({ v := .iface 26 (.int .i64 e), recovered := false } :: older)) w fun r u' w' =>
      r = .returned (.tuple #[]) ∧ u' = .panicking ({ v := .iface 26 (.int .i64 e), recovered := true } :: older) ∧ w' = w.setCell p (.int .i64 e) := by
  have hta := assert_errno e
  refine callsD_of_wpS Try.func19 rfl fun c₀ cs hu => ?_
  simp only [Try.ntmps19, List.size_toArray, List.length_cons, List.length_nil, Nat.reduceAdd, Nat.reduceSub, Array.replicate_succ,
     Array.replicate_zero, List.push_toArray, List.append_toArray, List.nil_append, List.cons_append]
  apply wpS_seq
  apply wpS_region
  simp [wpOpsS, go_sem, recoverD, hu, Exit.thenS]
  refine wpS_of_wp ?_
  go_wp2
  exact ⟨rfl, _, rfl, .tuple #[], by simp [results, Try.results19], rfl, rfl, rfl⟩

set_option maxHeartbeats 400000 in
theorem caught_idle (p : Addr) (w : World) :
    CallsD Try.prog 19 #[.pointer (some p)] .returning w fun r u' w' =>
      r = .returned (.tuple #[]) ∧ u' = .returning ∧ w' = w := by
  refine callsD_of_wpS Try.func19 rfl fun c₀ cs hu => ?_
  simp only [Try.ntmps19, List.size_toArray, List.length_cons, List.length_nil, Nat.reduceAdd, Nat.reduceSub, Array.replicate_succ,
     Array.replicate_zero, List.push_toArray, List.append_toArray, List.nil_append, List.cons_append]
  apply wpS_seq
  apply wpS_region
  simp [wpOpsS, go_sem, recoverD, hu, Exit.thenS]
  refine wpS_of_wp ?_
  go_wp2
  exact ⟨rfl, .returning, by cases c₀; simp_all, .tuple #[], by simp [results, Try.results19], rfl, rfl, rfl⟩

/-- The door behind which caught waits: the function returns. -/
theorem door_idle {fn : Func} {tmps : Array Value} {R : Ending → World → Prop} (p : Addr) (w : World) (v : Value)
    (hr : (results fn tmps).run Try.prog w = .ok v w) (h : R (.returned v) w) :
    Leaves Try.prog fn tmps R [{ target := .fn (.func 19) #[], args := #[.pointer (some p)] }] .returning w := by
  refine leaves_cons (f := 19) (args := #[.pointer (some p)]) (by simp) (by simp [go_sem]) ?_
  refine (caught_idle p w).mono ?_
  rintro r u' w' ⟨rfl, rfl, rfl⟩
  exact ⟨v, hr, h⟩
/-- The function has panicked with an error. -/
theorem door_panic {fn : Func} {tmps : Array Value} {R : Ending → World → Prop} (p : Addr) (e old : Int) (w : World) (v : Value) (hc : w.cell? p = some (.int .i64 old)) (hz : w.frozen? p = false)
    (hr : (results fn tmps).run Try.prog (w.setCell p (.int .i64 e)) = .ok v (w.setCell p (.int .i64 e))) (h : R (.returned v) (w.setCell p (.int .i64 e))) :
    Leaves Try.prog fn tmps R [{ target := .fn (.func 19) #[], args := #[.pointer (some p)] }] (.panicking [{ v := .iface 26 (.int .i64 e), recovered := false }]) w := by
  refine leaves_cons (f := 19) (args := #[.pointer (some p)]) (by simp) (by simp [go_sem]) ?_
  refine (caught_panic p e old [] w hc hz).mono ?_
  rintro r u' w' ⟨rfl, rfl, rfl⟩
  exact ⟨v, hr, h⟩

set_option maxHeartbeats 400000 in
theorem check_any (A : Option Addr) (c : Nat) (l : List Ev) (W : World) (hA : Rd W W.heap.size 4 A l.length (l.flatMap Ev.cells)) :
    Calls Try.prog 14 #[.slice A l.length c] W (Ret (.int .i64 (check l)) W) := by
  go_enter_defers Try.func14, Try.ntmps14
  go_wp2_with fail
  refine (follow_any A c l _ (by exact (hA.alloc (Nat.le_refl _) _).more (by simp))).mono ?_
  rintro r w1 ⟨hb, hr⟩
  have hc : w1.cell? ⟨W.heap.size, 0, none⟩ = some (.int .i64 0) := by rw [hb.cell (p := ⟨W.heap.size, 0, none⟩) (by simp)]; simp [go_sem]
  have hz : w1.frozen? ⟨W.heap.size, 0, none⟩ = false := by rw [hb.frozen (p := ⟨W.heap.size, 0, none⟩) (by simp)]; simp [go_sem]
  have hc2 : ∀ u, (w1.setCell ⟨W.heap.size, 0, none⟩ u).cell? ⟨W.heap.size, 0, none⟩ = some u := fun u => World.cell?_setCell_same _ _ _ hc
  have hb2 : Hid (∀ u, Below W.heap.size W (w1.setCell ⟨W.heap.size, 0, none⟩ u)) := fun u => bSet (bCall (bAl (bRefl W) _) hb) (Nat.le_refl _) u
  rcases hr with ⟨h0, rfl⟩ | ⟨h0, rfl⟩
  · have H0 := Lib.hid h0
    clear h0
    go_wp2_with fail
    refine door_idle _ _ (.int .i64 0) (by simp [results, Try.results14, go_sem, hc2]) ⟨by rw [H0.out], hb2.out _⟩
  · refine door_panic _ (check l) 0 _ (.int .i64 (check l)) hc hz (by simp [results, Try.results14, go_sem, hc2]) ⟨rfl, hb2.out _⟩

end Go.Proofs.Ytcadkfaaogclfaa
