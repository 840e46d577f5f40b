/-
  From a walk to the given row and its card: the listed variables, the witness, the arguments that stay.
-/
import Derived.Test.YtoeobcmmafncmaaDoorRows
import Derived.Test.YtoeobcmmafncmaaDoorTie
import Derived.Test.YtoeobcmmafncmaaDoorCards
import Derived.Test.YtoeobcmmafncmaaDoorMba
import Derived.Handed
import Derived.LaidLaws
import Derived.LaidHandle
import Derived.SevenTiedAt
import Derived.ChangeSame
import Derived.ChangeVars
import Derived.JoinedOf
import Derived.RowKit
import Derived.FnData
import Derived.Test.YtoeobcmmafncmaaDoorMau
import Derived.Test.YtoeobcmmafncmaaDoorMah
import Derived.ChangeKeysEq
namespace Go.Proofs.YtoeobcmmafncmaaDoor
open Go.ChangeShapes Go.WideShapes Go.RowKit

theorem agg_of_cells {v : Value} (h : v.cells.size ≠ 1) : ∃ cs : Array Value, v = .agg cs ∧ v.cells = cs := by
  cases v <;> first | exact ⟨_, rfl, rfl⟩ | exact absurd rfl h
theorem trodAll_stays {H : Type} {enc : TypeId × Value → H} {W W' : World} (hb : Below W.heap.size W W') : ∀ {ts : List TypeId} {vs : List Value} {ds : List (DataW H)} {ps : List MemPlace},
    (∀ t ∈ ts, Tryd.prog.readableRec t = true ∧ t < Tryd.prog.types.size) → DataW.TrodAll enc Tryd.prog W 0 (fun _ => true) true ts vs ds ps → DataW.TrodAll enc Tryd.prog W' 0 (fun b => decide (b < W.heap.size)) true ts vs ds ps
  | [], [], [], _, _, h => h
  | t :: ts, v :: vs, d :: ds, ps, hr, h => by
    obtain ⟨p, q, h1, h2, rfl⟩ := h
    obtain ⟨r1, r2⟩ := hr t (by simp)
    exact ⟨p, q, Below.trod laid_out r1 r2 h1 hb (by obtain ⟨m, hm⟩ := h1; exact DataW.trod_lt m _ _ _ hm), trodAll_stays hb (fun t ht => hr t (by simp [ht])) h2, rfl⟩
  | [], _ :: _, _, _, _, h => by cases h
  | [], [], _ :: _, _, _, h => by cases h
  | _ :: _, [], _, _, _, h => by cases h
  | _ :: _, _ :: _, [], _, _, h => by cases h
theorem trodAll_five {H : Type} {enc : TypeId × Value → H} {P : Program} {w : World} {base : Nat} {spare : Nat → Bool} {held : Bool} {t t' t'' t3 t4 : TypeId} {args : Array Value} {ds : List (DataW H)} {ps : List MemPlace}
    (h : DataW.TrodAll enc P w base spare held [t, t', t'', t3, t4] args.toList ds ps) :
    ∃ v v' v'' v3 v4 d d' d'' d3 d4 p p' p'' p3 p4, args = #[v, v', v'', v3, v4] ∧ ds = [d, d', d'', d3, d4] ∧ DataW.Trod enc P w base spare held t v d p ∧ DataW.Trod enc P w base spare held t' v' d' p' ∧ DataW.Trod enc P w base spare held t'' v'' d'' p'' ∧ DataW.Trod enc P w base spare held t3 v3 d3 p3 ∧ DataW.Trod enc P w base spare held t4 v4 d4 p4 := by
  obtain ⟨v, vs, d, ds', p, q, hargs, rfl, rfl, hd, hrest⟩ := trodAll_cons h
  obtain ⟨v', vs', d', ds'', p', q', rfl, rfl, rfl, hd', hrest'⟩ := trodAll_cons hrest
  obtain ⟨v'', vs'', d'', ds''', p'', q'', rfl, rfl, rfl, hd'', hrest''⟩ := trodAll_cons hrest'
  obtain ⟨v3, vs3, d3, ds3, p3, q3, rfl, rfl, rfl, hd3, hrest3⟩ := trodAll_cons hrest''
  obtain ⟨v4, vs4, d4, ds4, p4, q4, rfl, rfl, rfl, hd4, hrest4⟩ := trodAll_cons hrest3
  obtain ⟨rfl, rfl, rfl⟩ := trodAll_nil hrest4
  exact ⟨v, v', v'', v3, v4, d, d', d'', d3, d4, p, p', p'', p3, p4, by cases args; simp_all, rfl, hd, hd', hd'', hd3, hd4⟩

/-- What the rows list. -/
noncomputable def shaLaid : List (String × DataW Unit) := [("franking/digest.start", Rows.laid_franking_digest_start), ("franking/digest.numbers", Rows.laid_franking_digest_numbers)]
def u32D (l : List Nat) : List (DataW Unit) := l.map fun x => .lit (.int .u32 (x : Nat))
theorem laid_start_is : (Rows.laid_franking_digest_start : DataW Unit) = .agg (u32D shaS.list) := rfl
theorem laid_numbers_is : (Rows.laid_franking_digest_numbers : DataW Unit) = .agg (u32D shaK) := rfl
theorem glob_start : Tryd.prog.globalNamed "franking/digest.start" = some 0 := by kernel_rfl
theorem glob_numbers : Tryd.prog.globalNamed "franking/digest.numbers" = some 1 := by kernel_rfl
noncomputable def globIs (g n : Nat) : Bool := match (Tryd.prog.globals[g]?).map (·.type) with
  | some t => match Tryd.prog.underlying t with
    | some (.array m e) => m == n && (e == 78)
    | _ => false
  | none => false
theorem globIs_out {g n : Nat} (h : globIs g n = true) {t : TypeId} (ht : (Tryd.prog.globals[g]?).map (·.type) = some t) : Tryd.prog.underlying t = some (.array n 78) := by
  unfold globIs at h
  rw [ht] at h
  simp only at h
  split at h
  · rename_i m e hu
    simp only [Bool.and_eq_true, beq_iff_eq] at h
    rw [hu, h.1, h.2]
  · cases h
theorem cells_u32 : Tryd.prog.cellsOf 78 = 1 := by kernel_rfl
theorem laid_cells {w : World} {base : Nat} {sp : Nat → Bool} {held : Bool} {fuel n : Nat} {t : TypeId} {cs : List Value} {l : List Nat} {p : List MemPlace} (ht : Tryd.prog.underlying t = some (.array n 78)) (hl : l.length = n)
    (h : DataW.trod (fun _ => ()) Tryd.prog w base sp held fuel t cs = some (.agg (u32D l), p)) (i x : Nat) (hi : l[i]? = some x) : cs[i]? = some (.int .u32 (x : Nat)) := by
  obtain ⟨xs, m, _, e, _, hxl, hf⟩ := DataW.trod_array ht h
  have hlt : i < n := by rw [← hl]; exact (List.getElem?_eq_some_iff.1 hi).1
  have h1 := hf i hlt
  rw [cells_u32, Nat.mul_one] at h1
  obtain ⟨y, hy⟩ : ∃ y, xs[i]? = some y := ⟨_, List.getElem?_eq_getElem (by omega)⟩
  rw [hy] at h1
  obtain ⟨z, e1, e2, _⟩ := DataW.trod_int Tryd.underlying78 h1
  have e3 : u32D l = xs.map (·.1) := by
    have := congrArg Prod.fst e
    injection this
  have e4 : (u32D l)[i]? = some y.1 := by rw [e3, List.getElem?_map, hy]; rfl
  have e5 : (u32D l)[i]? = some (.lit (.int .u32 (x : Nat))) := by unfold u32D; rw [List.getElem?_map, hi]; rfl
  rw [e4, e2] at e5
  have e6 : z = (x : Nat) := by simpa using e5
  have := at_part (o := i) (m := 1) (j := 0) e1 rfl
  rw [Nat.add_zero] at this
  rw [this, e6]
theorem cell_lt {w : World} {g i : Nat} {v : Value} (h : w.cell? ⟨g, i, none⟩ = some v) : g < w.heap.size := by
  unfold World.cell? at h
  cases hh : w.heap[g]? with
  | none => simp [hh] at h
  | some o => exact (Array.getElem?_eq_some_iff.1 hh).1
set_option maxRecDepth 100000 in
theorem sha_of_laid {w : World} (h : laidMetH Tryd.prog shaLaid w) : ShaG w := by
  have h' : laidMet Tryd.prog shaLaid w := h
  obtain ⟨ps, ⟨g, t, cs, fuel, p, q, hg, ht, hv, hd, ⟨g2, t2, cs2, fuel2, p2, q2, hg2, ht2, hv2, hd2, _, _⟩, _⟩, _, _⟩ := h'
  obtain rfl := Option.some.inj (glob_start.symm.trans hg)
  obtain rfl := Option.some.inj (glob_numbers.symm.trans hg2)
  rw [laid_start_is] at hd
  rw [laid_numbers_is] at hd2
  have a1 := globIs_out (n := 8) (by kernel_rfl) ht
  have a2 := globIs_out (n := 64) (by kernel_rfl) ht2
  have f1 : ∀ i x, shaS.list[i]? = some x → w.cell? ⟨0, i, none⟩ = some (.int .u32 (x : Nat)) := fun i x hx => by
    rw [World.var?_cell glob_start hv, ← Array.getElem?_toList]
    exact laid_cells a1 rfl hd i x hx
  have f2 : ∀ i x, shaK[i]? = some x → w.cell? ⟨1, i, none⟩ = some (.int .u32 (x : Nat)) := fun i x hx => by
    rw [World.var?_cell glob_numbers hv2, ← Array.getElem?_toList]
    exact laid_cells a2 rfl hd2 i x hx
  exact ⟨f2, f1, cell_lt (f2 0 _ rfl), cell_lt (f1 0 _ rfl)⟩
/-- A world in which the listed variables hold what is listed. -/
def u32C (l : List Nat) : Array Value := (l.map fun x => Value.int .u32 (x : Nat)).toArray
noncomputable def laidWorld (os : Os) : World :=
  let w0 := World.holding Tryd.prog os ⟨#[], #[], []⟩
  { w0 with heap := (w0.heap.modify 0 fun
      | .cells _ t frozen => .cells (u32C shaS.list) t frozen
      | o => o).modify 1 fun
      | .cells _ t frozen => .cells (u32C shaK) t frozen
      | o => o }
end Go.Proofs.YtoeobcmmafncmaaDoor

/-
  Letters and digests compared by '=='.
-/
namespace Go.Proofs.YtoeobcmmafncmaaDoor
open Go Go.RowKit

theorem eqCipher (d : Nat) (a b c e : Int) (w : World) : (Op.equalIn (d + 1 + 1) 52 (.agg #[.int .i64 a, .int .i64 b]) (.agg #[.int .i64 c, .int .i64 e])).run Tryd.prog w = .ok (a == c && b == e) w := by
  have hS : Tryd.prog.underlying 52 = some (.struct (Tryd.prog.fieldsOf 52)) := by kernel_rfl
  have hp : Tryd.prog.stoodInHeld 52 = false := by kernel_rfl
  have u3 := Tryd.underlying3
  have a3 := Tryd.isAgg3
  have z3 := Tryd.sizeOf3
  rw [run_equalIn_agg w (d + 1) 52 _ _ hS hp]
  simp only [Program.fieldsOf, Tryd.underlying52]
  go_simp
  by_cases h1 : a = c <;> by_cases h2 : b = e <;> simp [h1, h2]
theorem eqSealed (x y : Ltr) (w : World) : (Op.equalIn 10000 54 x.agg y.agg).run Tryd.prog w = .ok ((x.a0 == y.a0 && x.b0 == y.b0) && ((x.a1 == y.a1 && x.b1 == y.b1) && (x.a2 == y.a2 && x.b2 == y.b2))) w := by
  have a3 := Tryd.isAgg52
  have z3 := Tryd.sizeOf52
  unfold Ltr.agg
  rw [show (10000 : Nat) = 9999 + 1 from rfl, Op.equalIn]
  simp only [Sem.run_bind, run_underlying Tryd.underlying54, Result.andThen_ok]
  simp only [Std.Legacy.Range.forIn_eq_forIn_range', Std.Legacy.Range.size, Nat.sub_zero, Nat.add_sub_cancel, Nat.div_one, List.range'_succ, List.range'_zero, List.forIn_cons, List.forIn_nil]
  have e1 := fun (a b c e : Int) => eqCipher 9997 a b c e w
  go_simp
  by_cases h0 : x.a0 = y.a0
  · by_cases h1 : x.b0 = y.b0
    · by_cases h2 : x.a1 = y.a1
      · by_cases h3 : x.b1 = y.b1
        · by_cases h4 : x.a2 = y.a2
          · by_cases h5 : x.b2 = y.b2
            · simp [h0, h1, h2, h3, h4, h5]
            · simp [h0, h1, h2, h3, h4, h5]
          · simp [h0, h1, h2, h3, h4]
        · simp [h0, h1, h2, h3]
      · simp [h0, h1, h2]
    · simp [h0, h1]
  · simp [h0]
def Ltr.eqB (x y : Ltr) : Bool := (x.a0 == y.a0 && x.b0 == y.b0) && ((x.a1 == y.a1 && x.b1 == y.b1) && (x.a2 == y.a2 && x.b2 == y.b2))
theorem Ltr.eqB_iff {x y : Ltr} : x.eqB y = true ↔ x = y := by
  cases x; cases y
  simp [Ltr.eqB, and_assoc]
theorem run_eqS (x y : Ltr) (w : World) : (binOp .eql 54 x.agg y.agg).run Tryd.prog w = .ok (.bool (x.eqB y)) w := by
  show (binOp .eql 54 x.agg y.agg).run Tryd.prog w = _
  have h := eqSealed x y w
  unfold Ltr.agg at h ⊢
  rw [run_eql_struct, h]; rfl
theorem run_neS (x y : Ltr) (w : World) : (binOp .neq 54 x.agg y.agg).run Tryd.prog w = .ok (.bool (!(x.eqB y))) w := by
  show (binOp .neq 54 x.agg y.agg).run Tryd.prog w = _
  have h := eqSealed x y w
  unfold Ltr.agg at h ⊢
  rw [run_neq_struct, h]; rfl

theorem eqItems_byts (d : Nat) (a b : List Nat) (w : World) : ∀ is : List Nat, (∀ i ∈ is, i < a.length ∧ i < b.length) →
    (Op.eqItems (d + 1) 5 1 (byts a).toArray (byts b).toArray is).run Tryd.prog w = .ok (is.all fun i => a.getD i 0 == b.getD i 0) w
  | [], _ => by simp [Op.eqItems]
  | i :: is, h => by
    obtain ⟨h1, h2⟩ := h i (by simp)
    have ih := eqItems_byts d a b w is (fun j hj => h j (by simp [hj]))
    have a5 := Tryd.isAgg5
    have x1 : (byts a).toArray[i * 1]? = some (.int .u8 (a.getD i 0 : Nat)) := by simp [byts, h1]
    have x2 : (byts b).toArray[i * 1]? = some (.int .u8 (b.getD i 0 : Nat)) := by simp [byts, h2]
    have p1 : (part 5 (byts a).toArray (i * 1)).run Tryd.prog w = .ok (.int .u8 (a.getD i 0 : Nat)) w := by simp only [part, Sem.run_bind, a5, Result.andThen_ok]; rw [x1]; simp
    have p2 : (part 5 (byts b).toArray (i * 1)).run Tryd.prog w = .ok (.int .u8 (b.getD i 0 : Nat)) w := by simp only [part, Sem.run_bind, a5, Result.andThen_ok]; rw [x2]; simp
    simp only [Op.eqItems, Sem.run_bind, p1, p2, Result.andThen_ok, run_equalIn_int w d 5 .u8 .u8 _ _ Tryd.underlying5]
    have e : (((a.getD i 0 : Nat) : Int) == ((b.getD i 0 : Nat) : Int)) = (a.getD i 0 == b.getD i 0) := by
      generalize a.getD i 0 = m
      generalize b.getD i 0 = n
      rw [Bool.eq_iff_iff, beq_iff_eq, beq_iff_eq]
      omega
    rw [List.all_cons, e]
    cases (a.getD i 0 == b.getD i 0)
    · simp
    · simpa using ih
theorem all_eq {a b : List Nat} (ha : a.length = 32) (hb : b.length = 32) : ((List.range 32).all fun i => a.getD i 0 == b.getD i 0) = decide (a = b) := by
  rw [Bool.eq_iff_iff, List.all_eq_true, decide_eq_true_eq]
  constructor
  · intro h
    apply List.ext_getElem?
    intro i
    rcases Nat.lt_or_ge i 32 with hi | hi
    · have := h i (List.mem_range.2 hi)
      rw [beq_iff_eq, List.getD_eq_getElem?_getD, List.getD_eq_getElem?_getD] at this
      rw [List.getElem?_eq_getElem (by omega), List.getElem?_eq_getElem (by omega)] at this ⊢
      exact congrArg some this
    · rw [List.getElem?_eq_none (by omega), List.getElem?_eq_none (by omega)]
  · rintro rfl i _
    simp
theorem run_eqD (a b : List Nat) (ha : a.length = 32) (hb : b.length = 32) (w : World) : (binOp .eql 30 (.agg (byts a).toArray) (.agg (byts b).toArray)).run Tryd.prog w = .ok (.bool (decide (a = b))) w := by
  obtain ⟨i0, hi⟩ : ∃ i, Tryd.prog.info? 5 = some i := info_of_underlying Tryd.underlying5
  have hc : Tryd.prog.cellsOf 5 = 1 := by kernel_rfl
  have h2 : (Op.equalIn 10000 30 (.agg (byts a).toArray) (.agg (byts b).toArray)).run Tryd.prog w = .ok (decide (a = b)) w := by
    rw [show (10000 : Nat) = 9998 + 1 + 1 from rfl, run_equalIn_array w (9998 + 1) _ _ Tryd.underlying30 hi, hc, eqItems_byts 9998 a b w _ (by intro i hi; have := List.mem_range.1 hi; omega), all_eq ha hb]
  rw [run_eql_struct, h2]; rfl
end Go.Proofs.YtoeobcmmafncmaaDoor
