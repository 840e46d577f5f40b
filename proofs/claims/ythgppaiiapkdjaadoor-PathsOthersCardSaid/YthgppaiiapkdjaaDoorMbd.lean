/-
  paths.formed, walked.
-/
import Derived.Test.YthgppaiiapkdjaaDoorMbc
import Derived.Test.YthgppaiiapkdjaaDoorMaa
namespace Go.Proofs.YthgppaiiapkdjaaDoor
open Go.RowKit

/-- Is a case in form, but for its bare jobs? -/
def formedB (n m st : Nat) (first : List Ltr) (place : Int) : Bool := decide (2 ≤ n) && (decide (n ≤ 9) && (decide (m = n) && (decide (st ≤ n) && (decide (first.length ≠ 0) && (decide (first.length ≤ 64) && (first.all Ltr.good && decide (0 ≤ place ∧ place < first.length)))))))

set_option maxRecDepth 100000 in
set_option maxHeartbeats 4000000 in
theorem pa_formed (cs : Array Value) (first : List Ltr) (n m st c2 c3 c4 : Nat) (A2 A3 A4 : Option Addr) (place : Int) (W : World) (hF : LsAt W W.heap.size cs[3]? first) (h4 : cs[4]? = some (.slice A2 n c2)) (h5 : cs[5]? = some (.slice A3 m c3)) (h13 : cs[13]? = some (.slice A4 st c4)) (h6 : cs[6]? = some (.int .i64 place)) :
    Calls Tryd.prog 21 #[.agg cs] W (Ret (.bool (formedB n m st first place)) W) := by
  obtain ⟨A, c, h3, hA, _, hcm⟩ := hF
  obtain ⟨v, hv⟩ : ∃ v, v = formedB n m st first place := ⟨_, rfl⟩
  rw [← hv]
  unfold formedB at hv
  have B := Blk.new W 33 cs _ rfl
  have hb := bAl (bRefl W) (.cells cs 33)
  have k3 := (B.cell 3).trans h3
  have k4 := (B.cell 4).trans h4
  have k5 := (B.cell 5).trans h5
  have k6 := (B.cell 6).trans h6
  have k13 := (B.cell 13).trans h13
  clear h4 h5 h13
  go_enter Tryd.func21, Tryd.ntmps21
  go_upto_region 1 with fail
  generalize W.alloc (.cells cs 33) = w1 at *
  by_cases t1 : 2 ≤ n
  case neg =>
    have Hv : Hid (v = false) := by show _ = _; rw [hv, decide_eq_false t1]; simp
    have e1 : decide ((n : Int) < 2) = true := by rw [decide_eq_true]; omega
    clear t1
    clear hv
    go_wp2_with fail
    go_ret
    exact ⟨ret_bool Hv.out.symm, hb⟩
  have e1 : decide ((n : Int) < 2) = false := by rw [decide_eq_false]; omega
  by_cases t2 : n ≤ 9
  case neg =>
    have Hv : Hid (v = false) := by show _ = _; rw [hv, decide_eq_false t2]; simp
    have e2 : decide (9 < (n : Int)) = true := by rw [decide_eq_true]; omega
    clear t1 t2
    clear hv
    go_wp2_with fail
    go_ret
    exact ⟨ret_bool Hv.out.symm, hb⟩
  have e2 : decide (9 < (n : Int)) = false := by rw [decide_eq_false]; omega
  by_cases t3 : m = n
  case neg =>
    have Hv : Hid (v = false) := by show _ = _; rw [hv, decide_eq_false t3]; simp
    have e3 : ((m : Int) != (n : Int)) = true := by rw [bne_iff_ne]; omega
    clear t1 t2
    clear hv
    go_wp2_with fail
    go_ret
    exact ⟨ret_bool Hv.out.symm, hb⟩
  have e3 : ((m : Int) != (n : Int)) = false := by rw [bne_eq_false_iff_eq]; omega
  by_cases t4 : st ≤ n
  case neg =>
    have Hv : Hid (v = false) := by show _ = _; rw [hv, decide_eq_false t4]; simp
    have e4 : decide ((n : Int) < (st : Int)) = true := by rw [decide_eq_true]; omega
    have e4' : decide (n < st) = true := by rw [decide_eq_true]; omega
    clear t1 t2 t4
    clear hv
    go_wp2_with fail
    go_ret
    exact ⟨ret_bool Hv.out.symm, hb⟩
  have e4 : decide ((n : Int) < (st : Int)) = false := by rw [decide_eq_false]; omega
  have e4' : decide (n < st) = false := by rw [decide_eq_false]; omega
  by_cases t5 : first.length ≠ 0
  case neg =>
    have Hv : Hid (v = false) := by show _ = _; rw [hv, decide_eq_false t5]; simp
    have e5 : ((first.length : Int) == 0) = true := by rw [beq_iff_eq]; omega
    clear t1 t2 t4 t5
    clear hv
    go_wp2_with fail
    go_ret
    exact ⟨ret_bool Hv.out.symm, hb⟩
  have e5 : ((first.length : Int) == 0) = false := by rw [beq_eq_false_iff_ne]; omega
  by_cases t6 : first.length ≤ 64
  case neg =>
    have Hv : Hid (v = false) := by show _ = _; rw [hv, decide_eq_false t6]; simp
    have e6 : decide (64 < (first.length : Int)) = true := by rw [decide_eq_true]; omega
    clear t1 t2 t4 t5 t6
    clear hv
    go_wp2_with fail
    go_ret
    exact ⟨ret_bool Hv.out.symm, hb⟩
  have e6 : decide (64 < (first.length : Int)) = false := by rw [decide_eq_false]; omega
  have Hv : Hid (v = (first.all Ltr.good && decide (0 ≤ place ∧ place < first.length))) := by
    show _ = _
    rw [hv, decide_eq_true t1, decide_eq_true t2, decide_eq_true t3, decide_eq_true t4, decide_eq_true t5, decide_eq_true t6]; rfl
  have hlen := t6
  clear hv t1 t2 t3 t4 t5 t6
  go_wp2_with fail
  go_loopw [45] (fun i wr => ∃ k : Nat, k ≤ first.length ∧ i = .int .i64 k ∧ Below W.heap.size W wr ∧ Blk wr W.heap.size 33 cs ∧ Hid (∀ y ∈ first.take k, y.good = true)) (fun i _ => first.length - (intOf i).toNat)
  case atStart => exact ⟨0, Nat.zero_le _, rfl, hb, B, Lib.hid (by simp)⟩
  case round =>
    clear k3 k4 k5 k6 k13 B hb e1 e2 e3 e4 e4' e5 e6
    obtain ⟨k, hkn, rfl, hb, B, hp⟩ := hrel
    by_cases hlt : k < first.length
    · obtain ⟨x, hx⟩ : ∃ x, Hid (first[k]? = some x) := ⟨_, Lib.hid (List.getElem?_eq_getElem hlt)⟩
      obtain ⟨b, off, rfl, hbb, d0, d1, d2, d3, d4, d5⟩ := Ltr_at (hA.below hb) hlt hx.out
      have b2 := bAl (bRefl wr) (.cells #[.int .i64 x.a0, .int .i64 x.b0, .int .i64 x.a1, .int .i64 x.b1, .int .i64 x.a2, .int .i64 x.b2] 56)
      have q := el_check x (wr.alloc (.cells #[.int .i64 x.a0, .int .i64 x.b0, .int .i64 x.a1, .int .i64 x.b1, .int .i64 x.a2, .int .i64 x.b2] 56))
      have he : x.err = if x.good = true then 0 else 100 := rfl
      cases hg : x.good
      · have Hv2 : Hid (v = false) := by
          show _ = _
          rw [Hv.out]
          have : first.all Ltr.good = false := List.all_eq_false.2 ⟨x, List.mem_of_getElem? hx.out, by rw [hg]; simp⟩
          rw [this]; rfl
        rw [hg] at he
        simp at he
        rw [he] at q
        clear he hg
        go_wp2_with fail
        (with_reducible refine q.mono ?_)
        rintro e w3 ⟨rfl, b3⟩
        clear q
        go_wp2_with fail
        go_ret
        exact ⟨ret_bool Hv2.out.symm, bCall (bCall hb b2) b3⟩
      · have hp' : Hid (∀ y ∈ first.take (k + 1), y.good = true) := by
          intro y hy
          obtain ⟨hk, rfl⟩ := List.getElem?_eq_some_iff.1 hx.out
          rw [List.take_succ_eq_append_getElem hk] at hy
          rcases List.mem_append.1 hy with hy | hy
          · exact hp.out y hy
          · obtain rfl : y = first[k] := by simpa using hy
            exact hg
        rw [hg] at he
        simp at he
        rw [he] at q
        clear he hg
        go_wp2_with fail
        (with_reducible refine q.mono ?_)
        rintro e w3 ⟨rfl, b3⟩
        clear q
        go_wp2_with fail
        exact ⟨⟨k + 1, by omega, by go_num, bCall (bCall hb b2) b3, B.below (bCall b2 b3) B.lt, hp'⟩, by simp [intOf]; omega⟩
    · have hall : first.all Ltr.good = true := List.all_eq_true.2 (by have := hp.out; rw [List.take_of_length_le (by omega)] at this; exact this)
      have Hv2 : Hid (v = decide (0 ≤ place ∧ place < first.length)) := by show _ = _; rw [Hv.out, hall]; rfl
      have k3 := (B.cell 3).trans h3
      have k6 := (B.cell 6).trans h6
      clear hall Hv
      by_cases p1 : 0 ≤ place
      · go_wp2_with fail
        go_ret
        refine ⟨ret_bool ?_, hb⟩
        rw [Hv2.out, Bool.eq_iff_iff]; simp [p1]
      · have Hv3 : Hid (v = false) := by show _ = _; rw [Hv2.out, decide_eq_false]; omega
        go_wp2_with fail
        go_ret
        exact ⟨ret_bool Hv3.out.symm, hb⟩
end Go.Proofs.YthgppaiiapkdjaaDoor

/-
  Cells of a list whose members have as many cells each.
-/
namespace Go.Proofs.YthgppaiiapkdjaaDoor
open Go.RowKit
/-- Cells of a list whose members have sz cells each. -/
theorem flat_mem {α : Type} {f : α → List Value} {sz : Nat} : ∀ (l : List α) (i j : Nat) (x : α), (∀ y ∈ l, (f y).length = sz) → l[i]? = some x → j < sz → (l.flatMap f)[i * sz + j]? = (f x)[j]?
  | [], i, j, x, _, h, _ => by simp at h
  | y :: l, 0, j, x, hf, h, hj => by
    simp only [List.getElem?_cons_zero, Option.some.injEq] at h
    subst h
    rw [List.flatMap_cons, Nat.zero_mul, Nat.zero_add, List.getElem?_append_left (by rw [hf _ (by simp)]; exact hj)]
  | y :: l, i + 1, j, x, hf, h, hj => by
    simp only [List.getElem?_cons_succ] at h
    rw [List.flatMap_cons, List.getElem?_append_right (by rw [hf _ (by simp), Nat.succ_mul]; omega), hf _ (by simp)]
    have : (i + 1) * sz + j - sz = i * sz + j := by rw [Nat.succ_mul]; omega
    rw [this]
    exact flat_mem l i j x (fun z hz => hf z (List.mem_cons_of_mem _ hz)) h hj
theorem flat_length {α : Type} {f : α → List Value} {sz : Nat} : ∀ (l : List α), (∀ y ∈ l, (f y).length = sz) → (l.flatMap f).length = l.length * sz
  | [], _ => by simp
  | y :: l, h => by rw [List.flatMap_cons, List.length_append, h y (by simp), flat_length l (fun z hz => h z (List.mem_cons_of_mem _ hz)), List.length_cons, Nat.succ_mul]; omega
end Go.Proofs.YthgppaiiapkdjaaDoor
