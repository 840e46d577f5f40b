/-
  frankingtop.TopKeys: what came in; the guards that let go.
-/
import Derived.Test.YtoeobcmmafncmaaDoorMbg
import Derived.Test.YtoeobcmmafncmaaDoorMbm
import Derived.Test.YtoeobcmmafncmaaDoorMbv
import Derived.Test.YtoeobcmmafncmaaDoorMaw
import Derived.Test.YtoeobcmmafncmaaDoorMba
import Derived.Test.YtoeobcmmafncmaaDoorMbh
import Derived.DeepKeys
import Derived.Test.YtoeobcmmafncmaaDoorMbb
import Derived.Test.YtoeobcmmafncmaaDoorMaa
namespace Go.Proofs.YtoeobcmmafncmaaDoor
open Go.RowKit

/-- Slices of slices of numbers. -/
def MoreAt (w : World) (B : Nat) (A : Option Addr) (more : List (List Int)) : Prop :=
  ∃ vs : List Value, Rd w B 1 A more.length vs ∧ ∀ (i : Nat) (l : List Int), more[i]? = some l → ∃ Ai ci, vs[i]? = some (.slice Ai l.length ci) ∧ Rd w B 1 Ai l.length (ints l)
theorem MoreAt.below {w w' : World} {B : Nat} {A : Option Addr} {more : List (List Int)} (h : MoreAt w B A more) (b : Below B w w') : MoreAt w' B A more := by
  obtain ⟨vs, h1, h2⟩ := h
  exact ⟨vs, h1.below b, fun i l hi => by obtain ⟨Ai, ci, h3, h4⟩ := h2 i l hi; exact ⟨Ai, ci, h3, h4.below b⟩⟩
theorem MoreAt.more {w : World} {B B' : Nat} {A : Option Addr} {more : List (List Int)} (h : MoreAt w B A more) (b : B ≤ B') : MoreAt w B' A more := by
  obtain ⟨vs, h1, h2⟩ := h
  exact ⟨vs, h1.more b, fun i l hi => by obtain ⟨Ai, ci, h3, h4⟩ := h2 i l hi; exact ⟨Ai, ci, h3, h4.more b⟩⟩
def Wd.cl (w : Wd) : List Value := [.int .i64 w.x, .int .i64 w.y, .int .i64 w.z]
theorem Wd.cl_len (w : Wd) : w.cl.length = 3 := rfl
theorem wd_at {w : World} {B n k : Nat} {A : Option Addr} {l : List Wd} {e : Wd} (h : Rd w B 3 A n (l.flatMap Wd.cl)) (hn : k < n) (hx : l[k]? = some e) :
    ∃ b off, A = some ⟨b, off, none⟩ ∧ b < B ∧ w.cell? ⟨b, off + k * 3, none⟩ = some (.int .i64 e.x) ∧ w.cell? ⟨b, off + k * 3 + 1, none⟩ = some (.int .i64 e.y) ∧ w.cell? ⟨b, off + k * 3 + 2, none⟩ = some (.int .i64 e.z) := by
  obtain ⟨b, off, hA, hb, hc⟩ := h.2 (by omega)
  have h0 := hc (k * 3 + 0) _ ((flat_at Wd.cl_len l k 0 e hx (by omega)).trans rfl)
  have h1 := hc (k * 3 + 1) _ ((flat_at Wd.cl_len l k 1 e hx (by omega)).trans rfl)
  have h2 := hc (k * 3 + 2) _ ((flat_at Wd.cl_len l k 2 e hx (by omega)).trans rfl)
  exact ⟨b, off, hA, hb, by simpa using h0, by rw [Nat.add_assoc]; exact h1, by rw [Nat.add_assoc]; exact h2⟩
theorem eight : ∀ a b c d e f g h : Bool, a = true ∨ (a = false ∧ b = true) ∨ (a = false ∧ b = false ∧ c = true) ∨ (a = false ∧ b = false ∧ c = false ∧ d = true) ∨ (a = false ∧ b = false ∧ c = false ∧ d = false ∧ e = true) ∨
    (a = false ∧ b = false ∧ c = false ∧ d = false ∧ e = false ∧ f = true) ∨ (a = false ∧ b = false ∧ c = false ∧ d = false ∧ e = false ∧ f = false ∧ g = true) ∨ (a = false ∧ b = false ∧ c = false ∧ d = false ∧ e = false ∧ f = false ∧ g = false ∧ h = true) ∨
    (a = false ∧ b = false ∧ c = false ∧ d = false ∧ e = false ∧ f = false ∧ g = false ∧ h = false) := by
  intro a b c d e f g h
  cases a <;> cases b <;> cases c <;> cases d <;> cases e <;> cases f <;> cases g <;> simp
set_option maxRecDepth 1000000 in
set_option maxHeartbeats 16000000 in
theorem tk_out (A0 A1 A2 A3 A4 : Option Addr) (n0 n1 n2 n3 n4 c0 c1 c2 c3 c4 : Nat) (cs : Array Value) (f : Int) (W : World)
    (hg : ¬ ((1 ≤ n0 ∧ n0 ≤ 3) ∧ n1 = n0 ∧ n2 ≤ 24 ∧ n3 ≤ 3 ∧ n3 ≤ n4 ∧ 0 ≤ f ∧ f < 2097152)) :
    Calls Tryd.prog 3 #[.slice A0 n0 c0, .slice A1 n1 c1, .slice A2 n2 c2, .slice A3 n3 c3, .slice A4 n4 c4, .agg cs, .int .i64 f] W (Ret (.bool true) W) := by
  have hb := bAl (bRefl W) (.cells cs 34)
  have q := fun w => ep_recover_nil w
  rcases eight ((n0 : Int) == 0) (decide (3 < (n0 : Int))) ((n1 : Int) != n0) (decide (24 < (n2 : Int))) (decide (3 < (n3 : Int))) (decide (n4 < n3)) (decide (f < 0)) (decide (2097152 ≤ f)) with
    e1 | ⟨e1, e2⟩ | ⟨e1, e2, e3⟩ | ⟨e1, e2, e3, e4⟩ | ⟨e1, e2, e3, e4, e5⟩ | ⟨e1, e2, e3, e4, e5, e6⟩ | ⟨e1, e2, e3, e4, e5, e6, e7⟩ | ⟨e1, e2, e3, e4, e5, e6, e7, e8⟩ | ⟨e1, e2, e3, e4, e5, e6, e7, e8⟩
  case inr.inr.inr.inr.inr.inr.inr.inr =>
    exfalso
    apply hg
    simp only [beq_eq_false_iff_ne, decide_eq_false_iff_not, bne_eq_false_iff_eq] at e1 e2 e3 e4 e5 e6 e7 e8
    omega
  all_goals
    clear hg
    go_enter Tryd.func3, Tryd.ntmps3
    go_upto_region 2 with fail
    generalize W.alloc (.cells cs 34) = w1 at *
    go_wp2_with fail
    (with_reducible refine (q _).mono ?_)
    rintro e w2 ⟨rfl, b2⟩
    go_wp2_with fail
    go_ret
    exact ⟨rfl, bCall hb b2⟩
end Go.Proofs.YtoeobcmmafncmaaDoor

/-
  Hand-overs: another root in one, two compared; letters in blocks. For TopKeys.
-/
namespace Go.Proofs.YtoeobcmmafncmaaDoor
open Go Go.RowKit

theorem rd_blk {w : World} {g n sz : Nat} {t : TypeId} {xs : List Value} (h : Blk w g t xs.toArray) (hl : xs.length = n * sz) : Rd w w.heap.size sz (some ⟨g, 0, none⟩) n xs :=
  ⟨hl, fun _ => ⟨g, 0, rfl, h.lt, fun j u hu => by rw [Nat.zero_add, h.cell]; simpa using hu⟩⟩
theorem good_ok {x : Ltr} (h : x.good = true) : x.ok := by
  obtain ⟨⟨⟨a0, a1⟩, b0, b1⟩, ⟨⟨c0, c1⟩, d0, d1⟩, ⟨e0, e1⟩, f0, f1⟩ := good_inP h
  refine ⟨⟨⟨?_, ?_⟩, ?_, ?_⟩, ⟨⟨?_, ?_⟩, ?_, ?_⟩, ⟨?_, ?_⟩, ?_, ?_⟩ <;> omega
/-- A hand-over of a batch. -/
def rootH (h : Hd) (a n : Int) (R : List Nat) : Hd := { h with from_ := a, many := n, root := R }
theorem rootH_ok {h : Hd} (ho : h.ok) {a n : Int} {R : List Nat} (ha : inI a) (hn : inI n) (hR : dgOk R) : (rootH h a n R).ok := by
  obtain ⟨h0, h1, h2, h3, h4, h5, h6, h7, h8, h9, h10⟩ := ho
  exact ⟨h0, h1, h2, h3, ha, h5, hn, hR, h8, h9, h10⟩
theorem rootH_cl {h : Hd} (ho : h.ok) {a n : Int} {R : List Nat} (hR : R.length = 32) :
    (((h.cl.toArray.setIfInBounds 4 (.int .i64 a)).setIfInBounds 6 (.int .i64 n)).toList.take 7 ++ (byts R).toArray.toList ++ ((h.cl.toArray.setIfInBounds 4 (.int .i64 a)).setIfInBounds 6 (.int .i64 n)).toList.drop (7 + (byts R).toArray.size)).toArray = (rootH h a n R).cl.toArray := by
  have hr : (byts h.root).length = 32 := by rw [byts_length, ho.2.2.2.2.2.2.2.1.1]
  have hR2 : (byts R).length = 32 := by rw [byts_length, hR]
  have e : ((h.cl.toArray.setIfInBounds 4 (.int .i64 a)).setIfInBounds 6 (.int .i64 n)).toList = ([.int .i64 h.line, .int .i64 h.at_, .int .i64 h.arrive, .int .i64 h.leg, .int .i64 a, .int .i64 h.to_, .int .i64 n] : List Value) ++ (byts h.root ++ ([.int .i64 h.time, .int .i64 h.e, .int .i64 h.s] : List Value)) := rfl
  rw [e, List.size_toArray, hR2]
  congr 1
  have e2 : (([.int .i64 h.line, .int .i64 h.at_, .int .i64 h.arrive, .int .i64 h.leg, .int .i64 a, .int .i64 h.to_, .int .i64 n] : List Value) ++ (byts h.root ++ ([.int .i64 h.time, .int .i64 h.e, .int .i64 h.s] : List Value))).drop (7 + 32) = [.int .i64 h.time, .int .i64 h.e, .int .i64 h.s] := by
    rw [List.drop_append, List.drop_eq_nil_of_le (by simp), List.nil_append, List.drop_append, List.drop_eq_nil_of_le (by rw [hr]; simp), hr]
    rfl
  rw [e2]
  rfl

/-- What can be compared: its literals are there. -/
theorem mapM_some {α β : Type} {f : α → Option β} : ∀ {l : List α}, (∀ a ∈ l, ∃ b, f a = some b) → ∃ bs, l.mapM f = some bs
  | [], _ => ⟨[], rfl⟩
  | a :: l, h => by
    obtain ⟨b, hb⟩ := h a (by simp)
    obtain ⟨bs, hbs⟩ := mapM_some (f := f) (l := l) (fun x hx => h x (by simp [hx]))
    exact ⟨b :: bs, by simp [List.mapM_cons, hb, hbs]⟩
def KL (d : Nat) (t : TypeId) (cs : List Value) : Prop := ∃ L, Tryd.prog.keyLits d t cs = some L
theorem kl_int {d : Nat} {t : TypeId} {q : IntKind} (hu : Tryd.prog.underlying t = some (.int q)) {x : Int} (h : (Lit.int q x).wf = true) : KL (d + 1) t [.int q x] :=
  ⟨[.int q x], by simp [Program.keyLits, hu, h]⟩
theorem kl_struct {d : Nat} {t : TypeId} {fs : Array Field} {cs : List Value} (hu : Tryd.prog.underlying t = some (.struct fs)) (hl : cs.length = Tryd.prog.cellsOf t) (hn : fs.all (·.name != "_") = true) (h : ∀ f ∈ fs.toList, KL d f.type ((cs.drop f.offset).take (Tryd.prog.cellsOf f.type))) : KL (d + 1) t cs := by
  obtain ⟨bs, hb⟩ := mapM_some (f := fun f : Field => Tryd.prog.keyLits d f.type ((cs.drop f.offset).take (Tryd.prog.cellsOf f.type))) h
  refine ⟨bs.flatten, ?_⟩
  simp only [Program.keyLits, hu, hl, hn, and_self, if_true, hb, Option.map_some]
theorem kl_array {d n : Nat} {t e : TypeId} {cs : List Value} (hu : Tryd.prog.underlying t = some (.array n e)) (hl : cs.length = Tryd.prog.cellsOf t) (h : ∀ i ∈ List.range n, KL d e ((cs.drop (i * Tryd.prog.cellsOf e)).take (Tryd.prog.cellsOf e))) : KL (d + 1) t cs := by
  obtain ⟨bs, hb⟩ := mapM_some (f := fun i : Nat => Tryd.prog.keyLits d e ((cs.drop (i * Tryd.prog.cellsOf e)).take (Tryd.prog.cellsOf e))) h
  refine ⟨bs.flatten, ?_⟩
  simp only [Program.keyLits, hu, hl, if_true, hb, Option.map_some]
theorem kl_i64 {d : Nat} {x : Int} (h : inI x) : KL (d + 1) 3 [.int .i64 x] := kl_int Tryd.underlying3 (Bool.and_eq_true_iff.2 ⟨decide_eq_true h.1, decide_eq_true h.2⟩)
theorem kl_dig {d : Nat} {R : List Nat} (h : dgOk R) : KL (d + 1 + 1) 30 (byts R) := by
  have hc : Tryd.prog.cellsOf 5 = 1 := by kernel_rfl
  refine kl_array Tryd.underlying30 (by rw [byts_length, h.1]; kernel_rfl) (fun i hi => ?_)
  have hi' : i < R.length := by rw [h.1]; exact List.mem_range.1 hi
  rw [hc, Nat.mul_one]
  have e : ((byts R).drop i).take 1 = [.int .u8 (R[i] : Nat)] := by
    unfold byts
    rw [← List.map_drop, List.drop_eq_getElem_cons hi', List.map_cons]; rfl
  rw [e]
  have hb := h.2 R[i] (List.getElem_mem hi')
  have h0 : (0 : Int) ≤ (R[i] : Nat) := by omega
  have h1 : ((R[i] : Nat) : Int) ≤ 255 := by omega
  exact kl_int Tryd.underlying5 (Bool.and_eq_true_iff.2 ⟨decide_eq_true h0, decide_eq_true h1⟩)
theorem kl_hand {h : Hd} (ho : h.ok) : KL 5 34 h.cl := by
  obtain ⟨h0, h1, h2, h3, h4, h5, h6, h7, h8, h9, h10⟩ := id ho
  have hr : (byts h.root).length = 32 := by rw [byts_length, h7.1]
  have c1 : Tryd.prog.cellsOf 3 = 1 := by kernel_rfl
  have c3 : Tryd.prog.cellsOf 28 = 3 := by kernel_rfl
  have c2 : Tryd.prog.cellsOf 32 = 2 := by kernel_rfl
  have c32 : Tryd.prog.cellsOf 30 = 32 := by kernel_rfl
  have d7 : h.cl.drop 7 = byts h.root ++ [.int .i64 h.time, .int .i64 h.e, .int .i64 h.s] := rfl
  have d39 : h.cl.drop 39 = [.int .i64 h.time, .int .i64 h.e, .int .i64 h.s] := by
    rw [show (39 : Nat) = 7 + 32 from rfl, ← List.drop_drop, d7, List.drop_append, List.drop_eq_nil_of_le (by omega), hr]; rfl
  have d40 : h.cl.drop 40 = [.int .i64 h.e, .int .i64 h.s] := by
    rw [show (40 : Nat) = 39 + 1 from rfl, ← List.drop_drop, d39]; rfl
  refine kl_struct Tryd.underlying34 (by rw [Hd.cl_length ho]; kernel_rfl) (by simp) (fun f hf => ?_)
  simp only [List.mem_cons, List.not_mem_nil, or_false] at hf
  rcases hf with rfl | rfl | rfl | rfl | rfl | rfl | rfl | rfl <;> dsimp only
  · rw [c3]
    refine kl_struct Tryd.underlying28 (by rw [c3]; rfl) (by simp) (fun f hf => ?_)
    simp only [List.mem_cons, List.not_mem_nil, or_false] at hf
    rcases hf with rfl | rfl | rfl <;> dsimp only <;> rw [c1]
    · exact kl_i64 h0
    · exact kl_i64 h1
    · exact kl_i64 h2
  · rw [c1]; exact kl_i64 h3
  · rw [c1]; exact kl_i64 h4
  · rw [c1]; exact kl_i64 h5
  · rw [c1]; exact kl_i64 h6
  · rw [c32, d7, List.take_append_of_le_length (by omega), List.take_of_length_le (by omega)]; exact kl_dig h7
  · rw [c1, d39]; exact kl_i64 h8
  · rw [c2, d40]
    refine kl_struct Tryd.underlying32 (by rw [c2]; rfl) (by simp) (fun f hf => ?_)
    simp only [List.mem_cons, List.not_mem_nil, or_false] at hf
    rcases hf with rfl | rfl <;> dsimp only <;> rw [c1]
    · exact kl_i64 h9
    · exact kl_i64 h10
/-- A hand-over is equal to itself. -/
theorem ne_hand {h : Hd} (ho : h.ok) (w : World) : (binOp .neq 34 (.agg h.cl.toArray) (.agg h.cl.toArray)).run Tryd.prog w = .ok (.bool false) w := by
  obtain ⟨L, hL⟩ := kl_hand ho
  have hf : (Value.agg h.cl.toArray).formed Tryd.prog 34 = true := by
    unfold Value.formed
    rw [Tryd.underlying34]
    simp only [beq_iff_eq]
    rw [List.size_toArray, Hd.cl_length ho]; kernel_rfl
  obtain ⟨r, hr, hi⟩ := run_equalIn_deep (P := Tryd.prog) 9995 5 34 (by kernel_rfl) w 5 5 (.agg h.cl.toArray) (.agg h.cl.toArray) L L hf hf hL hL
  have hr1 : r = true := hi.2 rfl
  rw [run_neq_struct, hr, hr1]
  rfl
theorem ne_dig {R : List Nat} (h : dgOk R) (w : World) : (binOp .neq 30 (.agg (byts R).toArray) (.agg (byts R).toArray)).run Tryd.prog w = .ok (.bool false) w := by
  obtain ⟨L, hL⟩ := kl_dig (d := 1) h
  have hf : (Value.agg (byts R).toArray).formed Tryd.prog 30 = true := by
    unfold Value.formed
    rw [Tryd.underlying30]
    simp only [beq_iff_eq]
    rw [List.size_toArray, byts_length, h.1]; kernel_rfl
  obtain ⟨r, hr, hi⟩ := run_equalIn_deep (P := Tryd.prog) 9997 3 30 (by kernel_rfl) w 3 3 (.agg (byts R).toArray) (.agg (byts R).toArray) L L hf hf hL hL
  have hr1 : r = true := hi.2 rfl
  rw [run_neq_struct, hr, hr1]
  rfl
theorem load_root {w : World} {g : Nat} {h : Hd} (B : Blk w g 34 h.cl.toArray) (ho : h.ok) : (Instr.loadAt 30 (.pointer (some ⟨g, 7, none⟩))).run Tryd.prog w = .ok (.agg (byts h.root).toArray) w :=
  load_mid B h.root ho.2.2.2.2.2.2.2.1.1 (fun j v hj => by
    have hl : j < 32 := by have := (List.getElem?_eq_some_iff.1 hj).1; rwa [byts_length, ho.2.2.2.2.2.2.2.1.1] at this
    rw [List.getElem?_toArray, (Hd.cells ho).2.2.2.2.2.2.2.1 j hl]
    exact hj)
theorem signed_ok {s : Int} {h : Hd} (hs : secB s = true) (hf : h.formed = true) : (signH s h).signed (pubV s) = true := by
  have e : (signH s h).signed (pubV s) = (h.formed && sgB (pubV s) h.text (sigE s h.text) (sigS s h.text)) := rfl
  rw [e, hf, sign_ok hs]
  rfl
end Go.Proofs.YtoeobcmmafncmaaDoor

/-
  Words by '=='.
-/
namespace Go.Proofs.YtoeobcmmafncmaaDoor
open Go.RowKit

theorem eqWords (a b c d e f : Int) (w : World) : (Op.equalIn 10000 50 (.agg #[.int .i64 a, .int .i64 b, .int .i64 c]) (.agg #[.int .i64 d, .int .i64 e, .int .i64 f])).run Tryd.prog w = .ok (a == d && (b == e && c == f)) w := by
  have u3 := Tryd.underlying3
  have a3 := Tryd.isAgg3
  have z3 := Tryd.sizeOf3
  rw [show (10000 : Nat) = 9999 + 1 from rfl, Op.equalIn]
  simp only [Sem.run_bind, run_underlying Tryd.underlying50, Result.andThen_ok]
  simp only [Std.Legacy.Range.forIn_eq_forIn_range', Std.Legacy.Range.size, Nat.sub_zero, Nat.add_sub_cancel, Nat.div_one, List.range'_succ, List.range'_zero, List.forIn_cons, List.forIn_nil]
  have e1 := fun (x y : Int) => run_equalIn_int w 9998 3 .i64 .i64 x y Tryd.underlying3
  go_simp
  by_cases h1 : a = d <;> by_cases h2 : b = e <;> by_cases h3 : c = f <;> simp [h1, h2, h3]
def Wd.eqB (v u : Wd) : Bool := v.x == u.x && (v.y == u.y && v.z == u.z)
theorem Wd.eqB_iff {v u : Wd} : v.eqB u = true ↔ v = u := by
  obtain ⟨a, b, c⟩ := v
  obtain ⟨d, e, f⟩ := u
  simp [Wd.eqB]
theorem run_eqW (v u : Wd) (w : World) : (binOp .eql 50 v.agg u.agg).run Tryd.prog w = .ok (.bool (v.eqB u)) w := by
  unfold Wd.agg Wd.eqB
  rw [run_eql_struct, eqWords]; rfl
theorem run_neW (v u : Wd) (w : World) : (binOp .neq 50 v.agg u.agg).run Tryd.prog w = .ok (.bool (!(v.eqB u))) w := by
  unfold Wd.agg Wd.eqB
  rw [run_neq_struct, eqWords]; rfl
end Go.Proofs.YtoeobcmmafncmaaDoor

/-
  A loop whose body writes very many slots: what they hold is ONE function of their numbers (no row of existentials).
-/
namespace Go.Proofs.YtoeobcmmafncmaaDoor
open Go Go.RowKit

/-- The slots that the mask names hold what U says, the others what they held. -/
def maskL : List Bool → Nat → List Value → (Nat → Value) → List Value
  | m :: ms, n, v :: l, U => (bif m then U n else v) :: maskL ms (n + 1) l U
  | [], _, l, _ => l
  | _ :: _, _, [], _ => []
def unmL : List Bool → List Value → List Value
  | m :: ms, v :: l => bif m then unmL ms l else v :: unmL ms l
  | [], l => l
  | _ :: _, [] => []
theorem mask_end : ∀ (ms : List Bool) (n : Nat) (vs ws : List Value) (g : Nat → Value), vs.length = ws.length → unmL ms vs = unmL ms ws → (∀ i, i < ws.length → g (n + i) = ws.getD i undef) → maskL ms n vs g = ws
  | [], _, _, _, _, _, h, _ => h
  | _ :: _, _, [], [], _, _, _, _ => rfl
  | _ :: _, _, [], _ :: _, _, h, _, _ => by simp at h
  | _ :: _, _, _ :: _, [], _, h, _, _ => by simp at h
  | m :: ms, n, v :: vs, u :: ws, g, hl, hu, hg => by
    have ih := fun h => mask_end ms (n + 1) vs ws g (by simpa using hl) h (fun i hi => by
      have := hg (i + 1) (by simpa using hi)
      rw [show n + 1 + i = n + (i + 1) by omega, this]; rfl)
    show (bif m then g n else v) :: maskL ms (n + 1) vs g = u :: ws
    change (bif m then unmL ms vs else v :: unmL ms vs) = (bif m then unmL ms ws else u :: unmL ms ws) at hu
    cases m with
    | true =>
      have h0 := hg 0 (by simp)
      rw [Nat.add_zero] at h0
      rw [ih hu, cond_true, h0]; rfl
    | false =>
      injection hu with h1 h2
      rw [ih h2, cond_false, h1]
theorem wp_loopM {P : Program} {c : Code} {Q : Exit → Act → World → Prop} {vs : List Value} {df : List Deferred} {w : World} (ms : List Bool) (R : (Nat → Value) → World → Prop) (mu : (Nat → Value) → Nat) (h0 : R (fun n => vs.getD n undef) w)
    (hr : ∀ (U : Nat → Value) (w' : World) (T : Act → World → Prop), R U w' → Hid (∀ ws w'', vs.length = ws.length → unmL ms vs = unmL ms ws → R (fun n => ws.getD n undef) w'' → mu (fun n => ws.getD n undef) < mu U → T ⟨ws.toArray, df⟩ w'') →
      c.wp P (Exit.then T Q) ⟨(maskL ms 0 vs U).toArray, df⟩ w') : (Code.loop c).wp P Q ⟨vs.toArray, df⟩ w := by
  refine wp_loop (fun a w => ∃ ws, a = ⟨ws.toArray, df⟩ ∧ vs.length = ws.length ∧ unmL ms vs = unmL ms ws ∧ R (fun n => ws.getD n undef) w) (fun a _ => mu (fun n => a.tmps.toList.getD n undef)) ⟨vs, rfl, rfl, rfl, h0⟩ ?_
  rintro a w' ⟨ws, rfl, hl, hu, h2⟩
  have h := hr _ w' (fun a' w'' => (∃ us, a' = ⟨us.toArray, df⟩ ∧ vs.length = us.length ∧ unmL ms vs = unmL ms us ∧ R (fun n => us.getD n undef) w'') ∧ mu (fun n => a'.tmps.toList.getD n undef) < mu (fun n => ws.getD n undef)) h2
    (Lib.hid (fun us w'' h3 h4 h5 h6 => ⟨⟨us, rfl, h3, h4, h5⟩, h6⟩))
  rw [mask_end ms 0 vs ws _ hl hu (fun i _ => by rw [Nat.zero_add])] at h
  exact h
end Go.Proofs.YtoeobcmmafncmaaDoor
