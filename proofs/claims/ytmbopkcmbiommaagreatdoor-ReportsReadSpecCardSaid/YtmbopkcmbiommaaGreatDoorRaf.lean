/- Loads and stores of long structs in a plain region, by a run equation that is at hand. -/
import Derived.Test.YtmbopkcmbiommaaGreatDoorRae
import Derived.Laws.CopyRow
import Derived.Shelf.Abstract
set_option maxRecDepth 1000000
set_option maxHeartbeats 16000000
namespace Go.Proofs.YtmbopkcmbiommaaGreatDoor
open Go.RowKit
theorem wpList_loadG {P : Program} {ops : Array Oper} {rest : List Oper} {o : Oper} {a : Act} {w : World} {Q : Exit → Act → World → Prop} (hgd : Region.wanted o (yielded ops a.tmps) = true) {ty : TypeId} {x : Operand} (ho : o.op = .load ty x) {q v : Value} (hx : a.eval x = q)
    (hl : (Instr.loadAt ty q).run P w = .ok v w) (h : wpList P ops Q rest (a.put o.dst v) w) : wpList P ops Q (o :: rest) a w :=
  wpList_step fun K hK => by
    rw [if_pos hgd]
    unfold Oper.wp
    rw [exec_load ho hx hl]
    exact hK _ _ h
theorem wpList_storeG {P : Program} {ops : Array Oper} {rest : List Oper} {o : Oper} {a : Act} {w w' : World} {Q : Exit → Act → World → Prop} (hgd : Region.wanted o (yielded ops a.tmps) = true) {ty : TypeId} {x y : Operand} (ho : o.op = .store ty x y) {q v : Value} (hx : a.eval x = q) (hy : a.eval y = v)
    (hl : (Instr.storeAt ty q v).run P w = .ok () w') (h : wpList P ops Q rest (a.put o.dst undef) w') : wpList P ops Q (o :: rest) a w :=
  wpList_step fun K hK => by
    rw [if_pos hgd]
    have e : (execOp a.eval o).run P w = .ok .skip w' := by
      unfold execOp
      rw [ho]
      simp only [Sem.run_bind, hx, hy, hl, Result.andThen_ok, Sem.run_pure]
    unfold Oper.wp
    rw [e]
    exact hK _ _ h
theorem store_at {P : Program} {w : World} {g o : Nat} {t ty : TypeId} {cur X : Array Value} (h : Blk w g t cur) (hi : (P.info? ty).map (·.size) = some X.size) (hl : o + X.size ≤ cur.size) (h1 : ∀ v ∈ X.toList, v.oneCell' = true) :
    (Instr.storeAt ty (.pointer (some ⟨g, o, none⟩)) (.agg X)).run P w = .ok () (w.setRow g (cur.toList.take o ++ X.toList ++ cur.toList.drop (o + X.size)).toArray) := by
  have := run_storeCells_at P g o t X.toList 0 cur w h (by simpa using hl) h1
  cases hq : P.info? ty with
  | none => simp [hq] at hi
  | some i =>
    have hs : X.size = i.size := by simp [hq] at hi; omega
    simp only [Nat.add_zero, Array.length_toList] at this
    simp [Instr.storeAt, Instr.sureAddr, Sem.run_bind, Sem.run_pure, Result.andThen_ok, storeVar, sizeOf, typeInfo, hq, Value.cells, hs, this]
section
variable {w : World} {g g' : Nat} {t t' : TypeId} {cs cs' X : Array Value}
theorem Blk.row (h : Blk w g t cs) (X : Array Value) : Blk (w.setRow g X) g t X := setRow_heap w g cs X t _ h
theorem Blk.farRow (h : Blk w g t cs) (hne : g ≠ g') (X : Array Value) : Blk (w.setRow g' X) g t cs := (setRow_other w g' g X hne).trans h
end
theorem store_whole {P : Program} {w : World} {g : Nat} {t ty : TypeId} {old X : Array Value} (h : Blk w g t old) (hi : (P.info? ty).map (·.size) = some X.size) (ho : old.size = X.size) (h1 : ∀ v ∈ X.toList, v.oneCell' = true) :
    (Instr.storeAt ty (.pointer (some ⟨g, 0, none⟩)) (.agg X)).run P w = .ok () (w.setRow g X) := by
  simp only [Instr.storeAt, Instr.sureAddr, Sem.run_bind, Sem.run_pure, Result.andThen_ok, run_storeVar_row w g t ty old X h hi ho (by have := all_oneCell_toArray h1; simpa using this)]
theorem store_newW {P : Program} {w : World} {t ty : TypeId} {old X : Array Value} (hi : (P.info? ty).map (·.size) = some X.size) (ho : old.size = X.size) (h1 : ∀ v ∈ X.toList, v.oneCell' = true) :
    (Instr.storeAt ty (.pointer (some ⟨w.heap.size, 0, none⟩)) (.agg X)).run P (w.alloc (.cells old t)) = .ok () (w.alloc (.cells X t)) := by
  rw [store_whole (Blk.new w t old _ rfl) hi ho h1, setRow_alloc]
end Go.Proofs.YtmbopkcmbiommaaGreatDoor
namespace Go.Proofs.YtmbopkcmbiommaaGreatDoor
open Go Go.RowKit
theorem findIdx_noneR {α : Type} {p : α → Bool} {l : List α} (h : ∀ y ∈ l, p y = false) : l.findIdx? p = none := List.findIdx?_eq_none_iff.2 h
def firstI {α : Type} (p : α → Bool) (l : List α) : Int := match l.findIdx? p with | some k => k | none => -1
theorem firstI_none {α : Type} {p : α → Bool} {l : List α} (h : ∀ y ∈ l, p y = false) : firstI p l = -1 := by unfold firstI; rw [findIdx_noneR h]
theorem firstI_at {α : Type} {p : α → Bool} {l : List α} {k : Nat} {x : α} (h : ∀ y ∈ l.take k, p y = false) (hx : l[k]? = some x) (hp : p x = true) : firstI p l = (k : Int) := by
  unfold firstI
  have : l.findIdx? p = some k := by
    rw [List.findIdx?_eq_some_iff_getElem]
    obtain ⟨hk, e⟩ := List.getElem?_eq_some_iff.1 hx
    refine ⟨hk, by rw [e]; exact hp, fun j hj => ?_⟩
    have := h l[j] (List.mem_take_iff_getElem.2 ⟨j, by omega, rfl⟩)
    rw [this]; simp
  rw [this]
theorem firstI_any {α : Type} {p : α → Bool} {l : List α} : decide (0 ≤ firstI p l) = l.any p := by
  cases h : l.any p
  · rw [firstI_none (fun y hy => by have := List.any_eq_false.1 h y hy; simpa using this)]; rfl
  · obtain ⟨y, hy, hb⟩ := List.any_eq_true.1 h
    unfold firstI
    cases hf : l.findIdx? p with
    | none => rw [List.findIdx?_eq_none_iff] at hf; rw [hf y hy] at hb; cases hb
    | some k => exact decide_eq_true (by show (0 : Int) ≤ (k : Int); omega)
theorem take_on {α : Type} {p : α → Bool} {l : List α} {k : Nat} {x : α} (h : ∀ y ∈ l.take k, p y = false) (hx : l[k]? = some x) (hp : p x = false) : ∀ y ∈ l.take (k + 1), p y = false := by
  intro y hy
  obtain ⟨hk, rfl⟩ := List.getElem?_eq_some_iff.1 hx
  rw [List.take_succ_eq_append_getElem hk] at hy
  rcases List.mem_append.1 hy with hy | hy
  · exact h y hy
  · obtain rfl : y = l[k] := by simpa using hy
    exact hp
theorem all_on {α : Type} {p : α → Bool} {l : List α} {k : Nat} {x : α} (h : ∀ y ∈ l.take k, p y = true) (hx : l[k]? = some x) (hp : p x = true) : ∀ y ∈ l.take (k + 1), p y = true := by
  intro y hy
  obtain ⟨hk, rfl⟩ := List.getElem?_eq_some_iff.1 hx
  rw [List.take_succ_eq_append_getElem hk] at hy
  rcases List.mem_append.1 hy with hy | hy
  · exact h y hy
  · obtain rfl : y = l[k] := by simpa using hy
    exact hp
theorem all_no {α : Type} {p : α → Bool} {l : List α} {k : Nat} {x : α} (hx : l[k]? = some x) (hp : p x = false) : l.all p = false :=
  List.all_eq_false.2 ⟨x, List.mem_of_getElem? hx, by rw [hp]; simp⟩
theorem tt_between (x a b : Int) (W : World) : Calls Tryz.prog 105 #[.int .i64 x, .int .i64 a, .int .i64 b] W (Same (.bool (btw x a b)) W) := by
  unfold btw
  cases h1 : decide (a ≤ x) <;> cases h2 : decide (x ≤ b)
  all_goals
    go_enter Tryz.func105, Tryz.ntmps105
    go_wp2_with fail
    go_ret
    exact ⟨by simp_all, rfl⟩
theorem leg_one (x : Int) (W : World) : Calls Tryz.prog 148 #[.int .i64 x] W (Same (.bool (!btw x 1 100000)) W) := by
  have q := tt_between x 1 100000 W
  go_enter Tryz.func148, Tryz.ntmps148
  go_wp2_with fail
  (with_reducible refine q.mono ?_)
  rintro e w1 ⟨rfl, rfl⟩
  go_wp2_with fail
  go_ret
  exact ⟨rfl, rfl⟩
theorem index_int (A : Option Addr) (c : Nat) (l : List Int) (gf : FuncId) (p : Int → Bool) (W : World) (hA : Rd W W.heap.size 1 A l.length (ints l)) (hn : l.length ≤ 1000000)
    (hq : ∀ x w, Calls Tryz.prog gf #[.int .i64 x] w (Same (.bool (p x)) w)) (hen : ∀ args w, (callFunc gf args).run Tryz.prog w = .ok (.enter gf args) w) :
    Calls Tryz.prog 118 #[.slice A l.length c, .func (.func gf) #[] #[]] W (Same (.int .i64 (firstI p l)) W) := by
  go_enter Tryz.func118, Tryz.ntmps118
  go_wp2_with fail
  replace hq := Lib.hid hq
  replace hen := Lib.hid hen
  go_loopw [8] (fun i wr => ∃ k : Nat, k ≤ l.length ∧ i = .int .i64 k ∧ W = wr ∧ Hid (∀ y ∈ l.take k, p y = false)) (fun i _ => l.length - (intOf i).toNat)
  case atStart => exact ⟨0, Nat.zero_le _, rfl, rfl, Lib.hid (by simp)⟩
  case round =>
    obtain ⟨k, hkn, rfl, rfl, hp⟩ := hrel
    by_cases hlt : k < l.length
    · obtain ⟨x, hx⟩ : ∃ x, Hid (l[k]? = some x) := ⟨_, Lib.hid (List.getElem?_eq_getElem hlt)⟩
      obtain ⟨b, off, rfl, hbb, c0⟩ := Int_at hA hlt hx.out
      have q := hq.out x W
      have he := hen.out
      have i0 : (0 : Int) ≤ (k : Int) := by omega
      have i1 : (k : Int) < (l.length : Int) := by omega
      cases hg : p x
      · have hp' := Lib.hid (take_on hp.out hx.out hg)
        rw [hg] at q
        clear hg
        go_wp2_with fail
        (with_reducible refine q.mono ?_)
        rintro e w1 ⟨rfl, rfl⟩
        clear q he
        go_wp2_with fail
        exact ⟨⟨k + 1, by omega, by go_num, trivial, hp'⟩, by simp [intOf]; omega⟩
      · have hres := Lib.hid (firstI_at hp.out hx.out hg)
        rw [hg] at q
        clear hg
        go_wp2_with fail
        (with_reducible refine q.mono ?_)
        rintro e w1 ⟨rfl, rfl⟩
        clear q he
        go_wp2_with fail
        go_ret
        exact ⟨ret_int hres.out.symm, rfl⟩
    · have hres : Hid (firstI p l = -1) := Lib.hid (firstI_none (by have := hp.out; rwa [List.take_of_length_le (by omega)] at this))
      go_wp2_with fail
      go_ret
      exact ⟨ret_int hres.out.symm, rfl⟩
theorem contains_int (A : Option Addr) (c : Nat) (l : List Int) (gf : FuncId) (p : Int → Bool) (W : World) (hA : Rd W W.heap.size 1 A l.length (ints l)) (hn : l.length ≤ 1000000)
    (hq : ∀ x w, Calls Tryz.prog gf #[.int .i64 x] w (Same (.bool (p x)) w)) (hen : ∀ args w, (callFunc gf args).run Tryz.prog w = .ok (.enter gf args) w) :
    Calls Tryz.prog 71 #[.slice A l.length c, .func (.func gf) #[] #[]] W (Same (.bool (l.any p)) W) := by
  have q := index_int A c l gf p W hA hn hq hen
  have hg := firstI_any (p := p) (l := l)
  generalize firstI p l = i at *
  cases hall : (l.any p)
  all_goals
    rw [hall] at hg
    have hg' := Lib.hid hg
    have h1 := hg
    simp at h1
    clear hg hall
    go_enter Tryz.func71, Tryz.ntmps71
    go_wp2_with fail
    (with_reducible refine q.mono ?_)
    rintro e w1 ⟨rfl, rfl⟩
    clear q
    go_wp2_with fail
    go_ret
    exact ⟨by first | rfl | exact ret_bool hg'.out, rfl⟩
def L7 (s : LS) (x : Lin) (n : Int) : Array Value := #[.slice s.a0 x.offs.length s.c0, .slice s.a1 x.legs.length s.c1, .int .i64 x.cls, .int .i64 x.room, .slice s.a2 x.rules.length s.c2, .slice s.a3 x.off.length s.c3, .int .i64 n]
theorem ln_sized (s : LS) (x : Lin) (n : Int) (W : World) (h1 : x.offs.length ≤ 1000000) :
    Calls Tryz.prog 134 #[.agg (L7 s x n)] W (Ret (.bool (btw (x.offs.length : Int) 2 9 && decide (x.legs.length + 1 = x.offs.length))) W) := by
  have q := fun w => tt_between (x.offs.length : Int) 2 9 w
  have hw : IntKind.i64.wrap ((x.offs.length : Int) - 1) = (x.offs.length : Int) - 1 := by rw [IntKind.wrap_i64]; omega
  have he : ((x.legs.length : Int) == (x.offs.length : Int) - 1) = decide (x.legs.length + 1 = x.offs.length) := by
    rw [Bool.eq_iff_iff, beq_iff_eq, decide_eq_true_iff]; omega
  have BL := Blk.new W 172 (L7 s x n) _ rfl
  have hb := bAl (bRefl W) (.cells (L7 s x n) 172)
  unfold L7 at *
  generalize decide (x.legs.length + 1 = x.offs.length) = d at *
  cases hv : btw (x.offs.length : Int) 2 9
  all_goals
    rw [hv] at q
    clear hv
    cases d
    all_goals
      go_enter Tryz.func134, Tryz.ntmps134
      go_wp2_with fail
      (with_reducible refine (q _).mono ?_)
      rintro e w1 ⟨rfl, rfl⟩
      go_wp2_with fail
      go_ret
      exact ⟨rfl, hb⟩
theorem ln_numbers (s : LS) (x : Lin) (n : Int) (W : World) :
    Calls Tryz.prog 135 #[.agg (L7 s x n)] W (Ret (.bool (btw x.cls 1 255 && btw x.room 1 64)) W) := by
  have q1 := fun w => tt_between x.cls 1 255 w
  have q2 := fun w => tt_between x.room 1 64 w
  have hb := bAl (bRefl W) (.cells (L7 s x n) 172)
  unfold L7 at *
  cases hv : btw x.cls 1 255
  · rw [hv] at q1
    clear hv q2
    go_enter Tryz.func135, Tryz.ntmps135
    go_wp2_with fail
    (with_reducible refine (q1 _).mono ?_)
    rintro e w1 ⟨rfl, rfl⟩
    go_wp2_with fail
    go_ret
    exact ⟨rfl, hb⟩
  · rw [hv] at q1
    clear hv
    go_enter Tryz.func135, Tryz.ntmps135
    go_wp2_with fail
    (with_reducible refine (q1 _).mono ?_)
    rintro e w1 ⟨rfl, rfl⟩
    go_wp2_with fail
    (with_reducible refine (q2 _).mono ?_)
    rintro e w1 ⟨rfl, rfl⟩
    go_wp2_with fail
    go_ret
    exact ⟨rfl, hb⟩
theorem ln_legs (s : LS) (x : Lin) (n : Int) (W : World) (hA : Rd W W.heap.size 1 s.a1 x.legs.length (ints x.legs)) (hn : x.legs.length ≤ 1000000) :
    Calls Tryz.prog 137 #[.agg (L7 s x n)] W (Ret (.bool (x.legs.all (fun n => btw n 1 100000))) W) := by
  have hb := bAl (bRefl W) (.cells (L7 s x n) 172)
  have q := contains_int s.a1 s.c1 x.legs 148 (fun n => !btw n 1 100000) (W.alloc (.cells (L7 s x n) 172)) ((hA.below hb).more hb.size) hn (fun x w => leg_one x w) (enters_of Tryz.func148 (by kernel_rfl) rfl)
  have e : (x.legs.all (fun n => btw n 1 100000)) = !(x.legs.any (fun n => !btw n 1 100000)) := by
    rw [List.any_eq_not_all_not]; simp
  rw [e]
  generalize x.legs.any (fun n => !btw n 1 100000) = v at *
  unfold L7 at *
  go_enter Tryz.func137, Tryz.ntmps137
  go_wp2_with fail
  (with_reducible refine q.mono ?_)
  rintro e w1 ⟨rfl, rfl⟩
  go_wp2_with fail
  go_ret
  exact ⟨rfl, hb⟩
end Go.Proofs.YtmbopkcmbiommaaGreatDoor
