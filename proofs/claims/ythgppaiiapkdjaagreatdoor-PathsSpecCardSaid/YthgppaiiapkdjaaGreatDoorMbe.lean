/-
  Cases with something else in them; loads and stores of long structs in a plain region.
-/
import Derived.Test.YthgppaiiapkdjaaGreatDoorMbd
import Derived.Test.YthgppaiiapkdjaaGreatDoorMaf
import Derived.Laws.CopyRow
import Derived.Test.YthgppaiiapkdjaaGreatDoorMab
import Derived.Test.YthgppaiiapkdjaaGreatDoorMac
namespace Go.Proofs.YthgppaiiapkdjaaGreatDoor
open Go.RowKit

/-- A load whose run equation is at hand. -/
theorem wpList_loadG {P : Program} {ops : Array Oper} {rest : List Oper} {o : Oper} {a : Act} {w : World} {Q : Exit → Act → World → Prop} (hgd : Region.wanted o (yielded ops a.tmps) = true) {ty : TypeId} {x : Operand} (ho : o.op = .load ty x) {q v : Value} (hx : a.eval x = q)
    (hl : (Instr.loadAt ty q).run P w = .ok v w) (h : wpList P ops Q rest (a.put o.dst v) w) : wpList P ops Q (o :: rest) a w :=
  wpList_step fun K hK => by
    rw [if_pos hgd]
    unfold Oper.wp
    rw [exec_load ho hx hl]
    exact hK _ _ h
theorem wpList_storeG {P : Program} {ops : Array Oper} {rest : List Oper} {o : Oper} {a : Act} {w w' : World} {Q : Exit → Act → World → Prop} (hgd : Region.wanted o (yielded ops a.tmps) = true) {ty : TypeId} {x y : Operand} (ho : o.op = .store ty x y) {q v : Value} (hx : a.eval x = q) (hy : a.eval y = v)
    (hl : (Instr.storeAt ty q v).run P w = .ok () w') (h : wpList P ops Q rest (a.put o.dst undef) w') : wpList P ops Q (o :: rest) a w :=
  wpList_step fun K hK => by
    rw [if_pos hgd]
    have e : (execOp a.eval o).run P w = .ok .skip w' := by
      unfold execOp
      rw [ho]
      simp only [Sem.run_bind, hx, hy, hl, Result.andThen_ok, Sem.run_pure]
    unfold Oper.wp
    rw [e]
    exact hK _ _ h
/-- A part of a block, stored. -/
theorem store_at {P : Program} {w : World} {g o : Nat} {t ty : TypeId} {cur X : Array Value} (h : Blk w g t cur) (hi : (P.info? ty).map (·.size) = some X.size) (hl : o + X.size ≤ cur.size) (h1 : ∀ v ∈ X.toList, v.oneCell' = true) :
    (Instr.storeAt ty (.pointer (some ⟨g, o, none⟩)) (.agg X)).run P w = .ok () (w.setRow g (cur.toList.take o ++ X.toList ++ cur.toList.drop (o + X.size)).toArray) := by
  have := run_storeCells_at P g o t X.toList 0 cur w h (by simpa using hl) h1
  cases hq : P.info? ty with
  | none => simp [hq] at hi
  | some i =>
    have hs : X.size = i.size := by simp [hq] at hi; omega
    simp only [Nat.add_zero, Array.length_toList] at this
    simp [Instr.storeAt, Instr.sureAddr, Sem.run_bind, Sem.run_pure, Result.andThen_ok, storeVar, sizeOf, typeInfo, hq, Value.cells, hs, this]
section
variable {w : World} {g g' : Nat} {t t' : TypeId} {cs cs' X : Array Value}
theorem Blk.row (h : Blk w g t cs) (X : Array Value) : Blk (w.setRow g X) g t X := setRow_heap w g cs X t _ h
theorem Blk.farRow (h : Blk w g t cs) (hne : g ≠ g') (X : Array Value) : Blk (w.setRow g' X) g t cs := (setRow_other w g' g X hne).trans h
theorem Blk.farRowT (h : Blk w g t cs) (h2 : Blk w g' t' cs') (hne : t ≠ t') (X : Array Value) : Blk (w.setRow g' X) g t cs := h.farRow (by
  intro e
  subst e
  unfold Blk at h h2
  rw [h] at h2
  simp at h2
  exact hne h2.2) X
end
theorem flatA_set {sz : Nat} : ∀ (l : List (Array Value)) (k : Nat) (x : Array Value), (∀ y ∈ l, y.toList.length = sz) → k < l.length →
    (l.flatMap Array.toList).take (k * sz) ++ x.toList ++ (l.flatMap Array.toList).drop (k * sz + sz) = (l.set k x).flatMap Array.toList
  | [], k, _, _, h => by simp at h
  | y :: l, 0, x, hf, _ => by
    have hy := hf y (by simp)
    rw [Nat.zero_mul, List.take_zero, List.nil_append, List.flatMap_cons, Nat.zero_add, List.drop_append_of_le_length (by omega), List.drop_eq_nil_of_le (by omega)]
    rfl
  | y :: l, k + 1, x, hf, h => by
    have hy := hf y (by simp)
    have ih := flatA_set l k x (fun z hz => hf z (List.mem_cons_of_mem _ hz)) (by simpa using h)
    rw [List.flatMap_cons, List.set_cons_succ, List.flatMap_cons, ← ih]
    have e1 : (k + 1) * sz = y.toList.length + k * sz := by rw [hy, Nat.succ_mul]; omega
    rw [e1, List.take_length_add_append, Nat.add_assoc, List.drop_length_add_append]
    simp only [List.append_assoc]
/-- What is asked of a job in memory. -/
def JobIn' (w : World) (B : Nat) (jc : Array Value) (j : Jb) : Prop := jc.size = 49 ∧ (∀ v ∈ jc.toList, v.oneCell' = true) ∧ JobAt w B (fun i => jc[i]?) j ∧ j.small
section
variable {w w' : World} {B : Nat} {cs : Array Value} {jcs : List (Array Value)} {c : Cs}
theorem one_set {cs : Array Value} (h : ∀ v ∈ cs.toList, v.oneCell' = true) (i : Nat) {u : Value} (hu : u.oneCell' = true) : ∀ v ∈ (cs.setIfInBounds i u).toList, v.oneCell' = true := by
  intro v hv
  rw [Array.toList_setIfInBounds] at hv
  rcases List.mem_or_eq_of_mem_set hv with hv | rfl
  · exact h v hv
  · exact hu
theorem set_ne {cs : Array Value} {i j : Nat} {u : Value} (h : j ≠ i) : (cs.setIfInBounds j u)[i]? = cs[i]? := Array.getElem?_setIfInBounds_ne h
theorem set_eq {cs : Array Value} {i : Nat} {u : Value} (h : i < cs.size) : (cs.setIfInBounds i u)[i]? = some u := by rw [Array.getElem?_setIfInBounds_self, if_pos h]
theorem CaseAt.setJobs (h : CaseAt w B cs jcs c) {A : Option Addr} {cj : Nat} {jcs' : List (Array Value)} {jobs' : List Jb} (hR : Rd w B 49 A jobs'.length (jcs'.flatMap Array.toList)) (hl : jcs'.length = jobs'.length)
    (hjob : ∀ k jc, jcs'[k]? = some jc → JobIn' w B jc (jobs'.getD k zeroJ)) : CaseAt w B (cs.setIfInBounds 5 (.slice A jobs'.length cj)) jcs' { c with jobs := jobs' } := by
  have hs := h.size
  refine ⟨by rw [Array.size_setIfInBounds, hs], one_set h.one 5 rfl, ?_, ?_, ⟨A, cj, set_eq (by omega), hR⟩, hl, hjob, ?_, ?_, ?_, ?_, ?_, ?_, ?_, ?_, h.stepOk⟩
  all_goals rw [set_ne (by decide)]
  · exact h.first
  · exact h.keys
  · exact h.place
  · exact h.w0
  · exact h.w1
  · exact h.w2
  · exact h.r0
  · exact h.r1
  · exact h.r2
  · exact h.steps
theorem CaseAt.setFirst (h : CaseAt w B cs jcs c) {v : Value} {l : List Ltr} (hv : LsAt w B (some v) l) : CaseAt w B (cs.setIfInBounds 3 v) jcs { c with first := l } := by
  have hs := h.size
  have h1 : v.oneCell' = true := by obtain ⟨A, cc, e, -⟩ := hv; injection e with e; subst e; rfl
  refine ⟨by rw [Array.size_setIfInBounds, hs], one_set h.one 3 h1, by rw [set_eq (by omega)]; exact hv, ?_, ?_, h.jlen, h.job, ?_, ?_, ?_, ?_, ?_, ?_, ?_, ?_, h.stepOk⟩
  all_goals rw [set_ne (by decide)]
  · exact h.keys
  · exact h.jobs
  · exact h.place
  · exact h.w0
  · exact h.w1
  · exact h.w2
  · exact h.r0
  · exact h.r1
  · exact h.r2
  · exact h.steps
theorem CaseAt.setTime (h : CaseAt w B cs jcs c) (t : Int) : CaseAt w B (cs.setIfInBounds 14 (.int .i64 t)) jcs c := by
  have hs := h.size
  refine ⟨by rw [Array.size_setIfInBounds, hs], one_set h.one 14 rfl, ?_, ?_, ?_, h.jlen, h.job, ?_, ?_, ?_, ?_, ?_, ?_, ?_, ?_, h.stepOk⟩
  all_goals rw [set_ne (by decide)]
  · exact h.first
  · exact h.keys
  · exact h.jobs
  · exact h.place
  · exact h.w0
  · exact h.w1
  · exact h.w2
  · exact h.r0
  · exact h.r1
  · exact h.r2
  · exact h.steps
theorem CaseAt.setR (h : CaseAt w B cs jcs c) (r0 r1 r2 : Int) : CaseAt w B (((cs.setIfInBounds 10 (.int .i64 r0)).setIfInBounds 11 (.int .i64 r1)).setIfInBounds 12 (.int .i64 r2)) jcs { c with r0 := r0, r1 := r1, r2 := r2 } := by
  have hs := h.size
  refine ⟨by simp only [Array.size_setIfInBounds, hs], one_set (one_set (one_set h.one 10 rfl) 11 rfl) 12 rfl, ?_, ?_, ?_, h.jlen, h.job, ?_, ?_, ?_, ?_, by rw [set_ne (by decide), set_ne (by decide), set_eq (by omega)], by rw [set_ne (by decide), set_eq (by simp only [Array.size_setIfInBounds]; omega)], by rw [set_eq (by simp only [Array.size_setIfInBounds]; omega)], ?_, h.stepOk⟩
  all_goals rw [set_ne (by decide), set_ne (by decide), set_ne (by decide)]
  · exact h.first
  · exact h.keys
  · exact h.jobs
  · exact h.place
  · exact h.w0
  · exact h.w1
  · exact h.w2
  · exact h.steps
theorem CaseAt.setW (h : CaseAt w B cs jcs c) (x y z : Int) : CaseAt w B (((cs.setIfInBounds 7 (.int .i64 x)).setIfInBounds 8 (.int .i64 y)).setIfInBounds 9 (.int .i64 z)) jcs { c with words := ⟨x, y, z⟩ } := by
  have hs := h.size
  refine ⟨by simp only [Array.size_setIfInBounds, hs], one_set (one_set (one_set h.one 7 rfl) 8 rfl) 9 rfl, ?_, ?_, ?_, h.jlen, h.job, ?_, by rw [set_ne (by decide), set_ne (by decide), set_eq (by omega)], by rw [set_ne (by decide), set_eq (by simp only [Array.size_setIfInBounds]; omega)], by rw [set_eq (by simp only [Array.size_setIfInBounds]; omega)], ?_, ?_, ?_, ?_, h.stepOk⟩
  all_goals rw [set_ne (by decide), set_ne (by decide), set_ne (by decide)]
  · exact h.first
  · exact h.keys
  · exact h.jobs
  · exact h.place
  · exact h.r0
  · exact h.r1
  · exact h.r2
  · exact h.steps
theorem CaseAt.setR1 (h : CaseAt w B cs jcs c) (r1 : Int) : CaseAt w B (cs.setIfInBounds 11 (.int .i64 r1)) jcs { c with r1 := r1 } := by
  have hs := h.size
  refine ⟨by simp only [Array.size_setIfInBounds, hs], one_set h.one 11 rfl, ?_, ?_, ?_, h.jlen, h.job, ?_, ?_, ?_, ?_, ?_, by rw [set_eq (by omega)], ?_, ?_, h.stepOk⟩
  all_goals rw [set_ne (by decide)]
  · exact h.first
  · exact h.keys
  · exact h.jobs
  · exact h.place
  · exact h.w0
  · exact h.w1
  · exact h.w2
  · exact h.r0
  · exact h.r2
  · exact h.steps
end
theorem JobIn'.setOut {w : World} {B : Nat} {jc : Array Value} {j : Jb} (h : JobIn' w B jc j) {v : Value} {l : List Ltr} (hv : LsAt w B (some v) l) (hl : l.length ≤ 1000) : JobIn' w B (jc.setIfInBounds 4 v) { j with mo := l } := by
  obtain ⟨a1, a2, a3, a4⟩ := h
  have h1 : v.oneCell' = true := by obtain ⟨A, cc, e, -⟩ := hv; injection e with e; subst e; rfl
  refine ⟨by rw [Array.size_setIfInBounds, a1], one_set a2 4 h1, ⟨?_, ?_, ?_, ?_, ?_, ?_, ?_⟩, a4.1, a4.2.1, a4.2.2.1, by show l.length ≤ _; omega⟩
  · show LsAt w B ((jc.setIfInBounds 4 v)[0]?) _; rw [set_ne (by decide)]; exact a3.h0
  · show LsAt w B ((jc.setIfInBounds 4 v)[1]?) _; rw [set_ne (by decide)]; exact a3.h1
  · show LsAt w B ((jc.setIfInBounds 4 v)[2]?) _; rw [set_ne (by decide)]; exact a3.h2
  · show LsAt w B ((jc.setIfInBounds 4 v)[3]?) _; rw [set_ne (by decide)]; exact a3.h3
  · show LsAt w B ((jc.setIfInBounds 4 v)[4]?) _; rw [set_eq (by omega)]; exact hv
  · show DsAt w B ((jc.setIfInBounds 4 v)[5]?) _; rw [set_ne (by decide)]; exact a3.h5
  · show DsAt w B ((jc.setIfInBounds 4 v)[6]?) _; rw [set_ne (by decide)]; exact a3.h6
theorem JobIn'.below {w w' : World} {B : Nat} {jc : Array Value} {j : Jb} (h : JobIn' w B jc j) (b : Below B w w') : JobIn' w' B jc j := ⟨h.1, h.2.1, h.2.2.1.below b, h.2.2.2⟩
theorem JobIn'.more {w : World} {B B' : Nat} {jc : Array Value} {j : Jb} (h : JobIn' w B jc j) (b : B ≤ B') : JobIn' w B' jc j := ⟨h.1, h.2.1, h.2.2.1.more b, h.2.2.2⟩
theorem case_info' : (Tryz.prog.info? 33).map (·.size) = some 15 := by kernel_rfl
/-- What the laws' walks ask of the two functions that they all call. -/
def CheckOk : Prop := ∀ (cs : Array Value) (jcs : List (Array Value)) (c : Cs) (W : World), CaseAt W W.heap.size cs jcs c → ShaG W →
  Calls Tryz.prog 6 #[.agg cs] W (Ret (.tuple #[.int .i64 c.check.1, .int .i64 c.check.2.1, .int .i64 c.check.2.2]) W)
def SaneOk : Prop := ∀ W, ShaG W → Calls Tryz.prog 4 #[] W (Ret (.bool true) W)
theorem CheckOk.of (hP : CheckOk) {cs : Array Value} {jcs : List (Array Value)} {c : Cs} {W : World} (h : CaseAt W W.heap.size cs jcs c) (hG : ShaG W) {a b e : Int} (hc : c.check = (a, b, e)) :
    Calls Tryz.prog 6 #[.agg cs] W (Ret (.tuple #[.int .i64 a, .int .i64 b, .int .i64 e]) W) := by
  have := hP cs jcs c W h hG
  rw [hc] at this
  exact this
theorem load_case {w : World} {g : Nat} {cs : Array Value} (h : Blk w g 33 cs) (hs : cs.size = 15) : (Instr.loadAt 33 (.pointer (some ⟨g, 0, none⟩))).run Tryz.prog w = .ok (.agg cs) w :=
  load_blk h Tryz.underlying33 rfl (by rw [hs]; exact case_info')
theorem load_job {w : World} {g : Nat} {cs : Array Value} (h : Blk w g 60 cs) (hs : cs.size = 49) : (Instr.loadAt 60 (.pointer (some ⟨g, 0, none⟩))).run Tryz.prog w = .ok (.agg cs) w :=
  load_blk h Tryz.underlying60 rfl (by rw [hs]; exact job_info)
theorem store_whole {P : Program} {w : World} {g : Nat} {t ty : TypeId} {old X : Array Value} (h : Blk w g t old) (hi : (P.info? ty).map (·.size) = some X.size) (ho : old.size = X.size) (h1 : ∀ v ∈ X.toList, v.oneCell' = true) :
    (Instr.storeAt ty (.pointer (some ⟨g, 0, none⟩)) (.agg X)).run P w = .ok () (w.setRow g X) := by
  simp only [Instr.storeAt, Instr.sureAddr, Sem.run_bind, Sem.run_pure, Result.andThen_ok, run_storeVar_row w g t ty old X h hi ho (by have := all_oneCell_toArray h1; simpa using this)]
theorem store_newW {P : Program} {w : World} {t ty : TypeId} {old X : Array Value} (hi : (P.info? ty).map (·.size) = some X.size) (ho : old.size = X.size) (h1 : ∀ v ∈ X.toList, v.oneCell' = true) :
    (Instr.storeAt ty (.pointer (some ⟨w.heap.size, 0, none⟩)) (.agg X)).run P (w.alloc (.cells old t)) = .ok () (w.alloc (.cells X t)) := by
  rw [store_whole (Blk.new w t old _ rfl) hi ho h1, setRow_alloc]
def zJob : Value := .agg #[.slice none 0 0, .slice none 0 0, .slice none 0 0, .slice none 0 0, .slice none 0 0, .slice none 0 0, .slice none 0 0, .int .i64 0, .int .i64 0, .int .i64 0, .int .i64 0, .int .i64 0, .int .i64 0, .int .i64 0, .int .u8 0, .int .u8 0, .int .u8 0, .int .u8 0, .int .u8 0, .int .u8 0, .int .u8 0, .int .u8 0, .int .u8 0, .int .u8 0, .int .u8 0, .int .u8 0, .int .u8 0, .int .u8 0, .int .u8 0, .int .u8 0, .int .u8 0, .int .u8 0, .int .u8 0, .int .u8 0, .int .u8 0, .int .u8 0, .int .u8 0, .int .u8 0, .int .u8 0, .int .u8 0, .int .u8 0, .int .u8 0, .int .u8 0, .int .u8 0, .int .u8 0, .int .u8 0, .int .i64 0, .int .i64 0, .int .i64 0]
theorem job_info4 : (Tryz.prog.info? 60).map (fun i => (i.zero, i.size, i.bytes)) = some (some zJob, 49, 280) := by kernel_rfl
def zLtr : Value := .agg #[.int .i64 0, .int .i64 0, .int .i64 0, .int .i64 0, .int .i64 0, .int .i64 0]
theorem sealed_info4 : (Tryz.prog.info? 44).map (fun i => (i.zero, i.size, i.bytes)) = some (some zLtr, 6, 48) := by kernel_rfl
/-- A slice of nothing that has just been made. -/
theorem own_empty (w : World) (e : TypeId) (sz base : Nat) (hb : base ≤ w.heap.size) : (w.alloc (.cells #[] e)).ownsRow base e sz (.slice (some ⟨w.heap.size, 0, none⟩) 0 0) 0 [] :=
  ⟨by simp, .inr ⟨w.heap.size, 0, #[], rfl, hb, Blk.new w e #[] _ rfl, Nat.le_refl _, by unfold maxLen; omega, by simp, by simp⟩⟩
/-- A row of the call's own that is not empty. -/
theorem own_some {w : World} {base n sz : Nat} {e : TypeId} {v : Value} {xs : List Value} (h : w.ownsRow base e sz v (0 + n) ([] ++ xs)) (hn : 0 < n) :
    ∃ g cap cur, v = .slice (some ⟨g, 0, none⟩) n cap ∧ base ≤ g ∧ Blk w g e cur ∧ n ≤ cap ∧ cap ≤ maxLen ∧ cur.size = cap * sz ∧ cur.toList.take (n * sz) = xs := by
  rw [Nat.zero_add, List.nil_append] at h
  rcases h.2 with ⟨_, h0⟩ | ⟨g, cap, cur, h1, h2, h3, h4, h5, h6, h7⟩
  · omega
  · exact ⟨g, cap, cur, h1, h2, h3, h4, h5, h6, h7⟩
theorem take_seg {α : Type} {l x : List α} {o n : Nat} (h : o + x.length ≤ n) (hn : n ≤ l.length) : (l.take o ++ x ++ l.drop (o + x.length)).take n = (l.take n).take o ++ x ++ (l.take n).drop (o + x.length) := by
  have e1 : (l.take o).length = o := by rw [List.length_take]; omega
  rw [List.take_take, Nat.min_eq_left (show o ≤ n by omega), List.drop_take]
  have e2 : n = (l.take o ++ x).length + (n - (o + x.length)) := by rw [List.length_append, e1]; omega
  conv => lhs; rw [e2]
  rw [List.take_length_add_append]
theorem Rd.of_blk {w : World} {g n sz : Nat} {e : TypeId} {cur : Array Value} {xs : List Value} (h : Blk w g e cur) (hx : cur.toList.take (n * sz) = xs) (hl : xs.length = n * sz) : Rd w w.heap.size sz (some ⟨g, 0, none⟩) n xs :=
  ⟨hl, fun _ => ⟨g, 0, rfl, h.lt, fun j u hu => by
    rw [Nat.zero_add, h.cell]
    rw [← hx, List.getElem?_take] at hu
    split at hu
    · simpa using hu
    · cases hu⟩⟩
/-- An array of jobs with another one in a place. -/
theorem jobs_set {l : List (Array Value)} {k : Nat} {x : Array Value} (hf : ∀ y ∈ l, y.toList.length = 49) (hk : k < l.length) (hx : x.size = 49) :
    (l.flatMap Array.toList).take (k * 49) ++ x.toList ++ (l.flatMap Array.toList).drop (k * 49 + x.size) = (l.set k x).flatMap Array.toList := by
  rw [hx]; exact flatA_set l k x hf hk
end Go.Proofs.YthgppaiiapkdjaaGreatDoor

/-
  The reference's digest: the numbers, a block.
-/
namespace Go.Proofs.YthgppaiiapkdjaaGreatDoor
open Go.RowKit

theorem u32s_one (l : List Nat) : ∀ v ∈ (u32s l).toArray.toList, v.oneCell' = true := by
  intro v hv
  simp only [u32s] at hv
  obtain ⟨n, _, rfl⟩ := List.mem_map.1 (by simpa using hv)
  rfl
theorem w64_info : (Tryz.prog.info? 174).map (·.size) = some 64 := by kernel_rfl
set_option maxRecDepth 100000 in
set_option maxHeartbeats 4000000 in
theorem ref_numbers (W : World) : Calls Tryz.prog 130 #[] W (Ret (.agg (u32s shaK).toArray) W) := by
  go_enter Tryz.func130, Tryz.ntmps130
  go_upto_region 1 with fail
  have hb := bAl (bRefl W) (.cells (u32s shaK).toArray 174)
  have B := Blk.new W 174 (u32s shaK).toArray _ rfl
  apply wp_region_lit
  iterate 3 go_step
  refine wpList_storeG (v := .agg (u32s shaK).toArray) (by rfl) (by rfl) (by rfl) (by rfl) (store_newW (by exact w64_info) (by rfl) (u32s_one shaK)) ?_
  simp only [Act.put]
  generalize W.alloc (.cells (u32s shaK).toArray 174) = w1 at *
  go_wp2_with fail
  exact bodyPost_ret (v := .agg (u32s shaK).toArray) (results_cell_row rfl _ _ W.heap.size 174 _ (0, 0) _ rfl B Tryz.underlying174 rfl w64_info) rfl ⟨rfl, hb⟩
end Go.Proofs.YthgppaiiapkdjaaGreatDoor
