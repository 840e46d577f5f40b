/- reports.printer: put; walked. -/
import Derived.Test.YtmbopkcmbiommaaGreatDoorRbe
import Derived.Test.YtmbopkcmbiommaaGreatDoorRbf
import Derived.Test.YtmbopkcmbiommaaGreatDoorRbc
import Derived.Test.YtmbopkcmbiommaaGreatDoorRaq
import Derived.Test.YtmbopkcmbiommaaGreatDoorRar
import Derived.Test.YtmbopkcmbiommaaGreatDoorRbd
set_option maxRecDepth 1000000
set_option maxHeartbeats 16000000
namespace Go.Proofs.YtmbopkcmbiommaaGreatDoor
open Go Go.RowKit Go.Maps
inductive Itm where
  | num (n : Int)
  | flag (x : Bool)
  | nums (A : Option Addr) (c : Nat) (l : List Int)
  | seed (d : List Nat)
def Itm.val : Itm → Value
  | .num n => .iface 3 (.int .i64 n)
  | .flag x => .iface 4 (.bool x)
  | .nums A c l => .iface 25 (.slice A l.length c)
  | .seed d => .iface 32 (.agg (byts d).toArray)
def Itm.txt : Itm → By
  | .num n => numT n
  | .flag x => numT (flagI x)
  | .nums _ _ l => numsT l
  | .seed d => 32 :: hexT d
def Itm.good : Itm → Bool
  | .num n => okN n
  | .flag _ => true
  | .nums _ _ l => l.all okN
  | .seed _ => true
def Itm.wt : Itm → Nat
  | .num _ => 15
  | .flag _ => 15
  | .nums _ _ l => 15 * l.length
  | .seed _ => 65
def Itm.At (w : World) (b : Nat) : Itm → Prop
  | .num _ => True
  | .flag _ => True
  | .nums A _ l => Rd w b 1 A l.length (ints l) ∧ l.length ≤ 1000000
  | .seed d => d.length = 32 ∧ ∀ x ∈ d, x < 256
theorem flagI_ok (x : Bool) : okN (flagI x) = true := by cases x <;> decide
theorem Itm.len {x : Itm} {w : World} {b : Nat} (h : x.good = true) (hA : x.At w b) : x.txt.length ≤ x.wt := by
  cases x with
  | num n => exact numT_len h
  | flag x => exact numT_len (flagI_ok x)
  | nums A c l => exact numsT_fit h
  | seed d =>
    show (32 :: hexT d).length ≤ 65
    rw [List.length_cons, hexT_len, hA.1]
    omega
def itmsT (l : List Itm) : By := l.flatMap Itm.txt
def itmsW (l : List Itm) : Nat := (l.map Itm.wt).sum
theorem itmsT_len {w : World} {b : Nat} : ∀ {l : List Itm}, l.all Itm.good = true → (∀ x ∈ l, x.At w b) → (itmsT l).length ≤ itmsW l
  | [], _, _ => Nat.zero_le _
  | x :: l, h, hA => by
    rw [List.all_cons, Bool.and_eq_true] at h
    have h1 := Itm.len h.1 (hA x (List.mem_cons_self))
    have h2 := itmsT_len h.2 (fun y hy => hA y (List.mem_cons_of_mem _ hy))
    unfold itmsT itmsW at h2 ⊢
    rw [List.flatMap_cons, List.length_append, List.map_cons, List.sum_cons]
    omega
theorem itmsW_take : ∀ (l : List Itm) (k : Nat) (x : Itm), l[k]? = some x → itmsW (l.take k) + x.wt ≤ itmsW l
  | y :: l, 0, x, h => by
    simp only [List.getElem?_cons_zero, Option.some.injEq] at h
    subst h
    unfold itmsW
    rw [List.take_zero, List.map_cons, List.sum_cons]
    simp
  | y :: l, k + 1, x, h => by
    rw [List.getElem?_cons_succ] at h
    have := itmsW_take l k x h
    unfold itmsW at this ⊢
    rw [List.take_succ_cons, List.map_cons, List.sum_cons, List.map_cons, List.sum_cons]
    omega
  | [], k, x, h => by simp at h
theorem take_more {α : Type} {l : List α} {k : Nat} {x : α} (h : l[k]? = some x) : l.take (k + 1) = l.take k ++ [x] := by
  obtain ⟨hk, rfl⟩ := List.getElem?_eq_some_iff.1 h
  exact List.take_succ_eq_append_getElem hk
theorem itmsT_more {l : List Itm} {k : Nat} {x : Itm} (h : l[k]? = some x) : itmsT (l.take (k + 1)) = itmsT (l.take k) ++ x.txt := by
  rw [take_more h]
  unfold itmsT
  rw [List.flatMap_append]
  simp
theorem numsT_take {l : List Int} {k : Nat} {x : Int} (h : l[k]? = some x) : numsT (l.take (k + 1)) = numsT (l.take k) ++ numT x := by
  rw [take_more h]
  unfold numsT
  rw [List.flatMap_append]
  simp
theorem all_more {α : Type} {p : α → Bool} {l : List α} {k : Nat} {x : α} (h : l[k]? = some x) (h1 : (l.take k).all p = true) (h2 : p x = true) : (l.take (k + 1)).all p = true := by
  rw [take_more h, List.all_append, h1]
  simp [h2]
theorem all_less {α : Type} {p : α → Bool} {l : List α} {k : Nat} {x : α} (h : l[k]? = some x) (h2 : ¬ p x = true) : l.all p = false := by
  rw [List.all_eq_false]
  exact ⟨x, List.mem_of_getElem? h, h2⟩
theorem number_yes (b : Nat) (l : By) (n : Int) (w : World) (h : PAt w b l) (hl : l.length + (numT n).length ≤ 1000000000) (hG : LibG b w) (hok : okN n = true) :
    Calls Tryz.prog 79 #[.pointer (some ⟨b, 0, none⟩), .int .i64 n] w (fun e w' => e = .returned (.tuple #[]) ∧ PAt w' b (l ++ numT n) ∧ PKeep b w w') := by
  refine (pr_number b l n w h hl hG).mono ?_
  rintro e w' ⟨h1, h2⟩
  rw [if_pos hok] at h1
  exact ⟨h1.1, h1.2, h2⟩
theorem number_no (b : Nat) (n : Int) (w : World) (hok : ¬ okN n = true) :
    Calls Tryz.prog 79 #[.pointer (some ⟨b, 0, none⟩), .int .i64 n] w (fun e w' => e = PanW ∧ PKeep b w w') := by
  have hok : Hid (okN n = false) := Lib.hid (by simpa using hok)
  by_cases h1 : -1099511627776 ≤ n
  · have h2 : ¬ n ≤ 1099511627776 := fun h2 => by rw [okN_iff.2 ⟨h1, h2⟩] at hok; cases hok.out
    go_enter Tryz.func79, Tryz.ntmps79
    go_wp2_with (go_at_call 55; (with_reducible refine (want_no _).mono ?_); rintro e w3 ⟨h9, rfl⟩; unfold PanW at h9; subst h9)
    exact ⟨rfl, rfl, PKeep.refl _ _⟩
  · go_enter Tryz.func79, Tryz.ntmps79
    go_wp2_with (go_at_call 55; (with_reducible refine (want_no _).mono ?_); rintro e w3 ⟨h9, rfl⟩; unfold PanW at h9; subst h9)
    exact ⟨rfl, rfl, PKeep.refl _ _⟩
theorem as_int (m : Int) (w : World) : (Instr.typeAssert (.iface 3 (.int .i64 m)) 20 3 true).run Tryz.prog w = .ok (.tuple #[.int .i64 m, .bool true]) w := by kernel_rfl
theorem as_b0 (x : Bool) (w : World) : (Instr.typeAssert (.iface 4 (.bool x)) 20 3 true).run Tryz.prog w = .ok (.tuple #[.int .i64 0, .bool false]) w := by kernel_rfl
theorem as_b1 (x : Bool) (w : World) : (Instr.typeAssert (.iface 4 (.bool x)) 20 4 true).run Tryz.prog w = .ok (.tuple #[.bool x, .bool true]) w := by kernel_rfl
theorem as_l0 (v : Value) (w : World) : (Instr.typeAssert (.iface 25 v) 20 3 true).run Tryz.prog w = .ok (.tuple #[.int .i64 0, .bool false]) w := by kernel_rfl
theorem as_l1 (v : Value) (w : World) : (Instr.typeAssert (.iface 25 v) 20 4 true).run Tryz.prog w = .ok (.tuple #[.bool false, .bool false]) w := by kernel_rfl
theorem as_l2 (v : Value) (w : World) : (Instr.typeAssert (.iface 25 v) 20 25 true).run Tryz.prog w = .ok (.tuple #[v, .bool true]) w := by kernel_rfl
theorem as_d0 (v : Value) (w : World) : (Instr.typeAssert (.iface 32 v) 20 3 true).run Tryz.prog w = .ok (.tuple #[.int .i64 0, .bool false]) w := by kernel_rfl
theorem as_d1 (v : Value) (w : World) : (Instr.typeAssert (.iface 32 v) 20 4 true).run Tryz.prog w = .ok (.tuple #[.bool false, .bool false]) w := by kernel_rfl
theorem as_d2 (v : Value) (w : World) : (Instr.typeAssert (.iface 32 v) 20 25 true).run Tryz.prog w = .ok (.tuple #[.slice none 0 0, .bool false]) w := by kernel_rfl
theorem as_d3 (v : Value) (w : World) : (Instr.typeAssert (.iface 32 v) 20 32 true).run Tryz.prog w = .ok (.tuple #[v, .bool true]) w := by kernel_rfl
theorem wpList_insertG {P : Program} {w w' : World} {ops : Array Oper} {rest : List Oper} {o : Oper} {a : Act} {Q : Exit → Act → World → Prop}
    (hg : o.guard = none) (mo x v : Operand) (t : TypeId) (hop : o.op = Op.insert t mo x v) {m i y : Value} (hm : a.eval mo = m) (hx : a.eval x = i) (hv : a.eval v = y) (hrun : (Instr.mapUpdate t m i y).run P w = .ok () w')
    (hK : wpList P ops Q rest (a.put o.dst undef) w') : wpList P ops Q (o :: rest) a w := by
  refine wpList_plain hg fun K' hK' => ?_
  unfold Oper.wp
  simp [execOp, hop, hm, hx, hv, hrun, Result.andThen]
  exact hK' _ _ hK
theorem flag_map (w : World) : ∃ w', (Instr.mapUpdate 154 (.map (some w.heap.size)) (.bool true) (.int .i64 1)).run Tryz.prog (w.alloc (.map #[] 0)) = .ok () w' ∧ Below w.heap.size w w' ∧
    ∀ x : Bool, (Instr.lookup 154 (.map (some w.heap.size)) (.bool x) false).run Tryz.prog w' = .ok (.int .i64 (flagI x)) w' := by
  have h1 := World.ownsMap_made w Tryz.prog 4 (R := heldR)
  have hm : IsMap (DataW.map [] : DataW Value) := isMap_empty
  obtain ⟨w', r1, r2, r3⟩ := h1.update (bool_keyed Tryz.underlying4) Tryz.underlying154 (by unfold maxLen; omega) (keyOf_bool_mk Tryz.underlying4 true) (val := .int .i64 1) (d := .held (.int .i64 1)) (ps := []) rfl
  have hlt := h1.lt
  refine ⟨w', r1, (bAl (bRefl w) _).grown r3 (Nat.le_of_lt hlt) (fun q e => by cases e; exact Nat.le_refl _), fun x => ?_⟩
  have hz : (zeroValue 3).run Tryz.prog w' = .ok (.int .i64 0) w' := by kernel_rfl
  obtain ⟨v, ps, hrun, hv⟩ := r2.lookup (bool_keyed Tryz.underlying4) Tryz.underlying154 hz (zd := .held (.int .i64 0)) rfl (keyOf_bool_mk Tryz.underlying4 x)
  rw [hrun]
  cases x
  · rw [atKey_put_other (by intro h; injection h with h; cases h)] at hv
    have h4 : (some (DataW.held v, ([] : List MemPlace))) = some (DataW.held (.int .i64 0), ps) := hv
    injection h4 with h4
    injection h4 with h4
    injection h4 with h4
    rw [h4]; rfl
  · rw [atKey_put_same hm (k := .bool true) (by exact trivial)] at hv
    have h4 : (some (DataW.held v, ([] : List MemPlace))) = some (DataW.held (.int .i64 1), ps) := hv
    injection h4 with h4
    injection h4 with h4
    injection h4 with h4
    rw [h4]; rfl
end Go.Proofs.YtmbopkcmbiommaaGreatDoor
namespace Go.Proofs.YtmbopkcmbiommaaGreatDoor
open Go Go.RowKit
theorem cat_by (a b : By) : (⟨a.toArray⟩ ++ ⟨b.toArray⟩ : ByteArray) = ⟨(a ++ b).toArray⟩ := by
  apply ByteArray.ext
  rw [ByteArray.data_append]
  simp
theorem ret_str {a b : ByteArray} (h : a = b) : Ending.returned (.string a) = .returned (.string b) := by rw [h]
theorem rp_in (n : Int) (W : World) : Calls Tryz.prog 22 #[.int .i64 n] W (Same (.bool (okN n)) W) := by
  unfold okN
  by_cases h1 : -1099511627776 ≤ n <;> by_cases h2 : n ≤ 1099511627776
  all_goals
    go_enter Tryz.func22, Tryz.ntmps22
    go_wp2_with fail
    go_ret
    exact ⟨by simp_all, rfl⟩
theorem ra_num0 : ∀ (m : Nat) (n : Int), 0 ≤ n → n ≤ 1099511627776 → n.toNat = m → ∀ W : World, Calls Tryz.prog 23 #[.int .i64 n] W (Ret (.string ⟨(itB n).toArray⟩) W) := by
  intro m
  induction m using Nat.strongRecOn with
  | _ m ih =>
    intro n h0 h1 hm W
    have g1 : ¬ n < 0 := by omega
    by_cases h10 : n < 10
    · have e1 : IntKind.i64.wrap (48 + n) = 48 + n := by rw [IntKind.wrap_i64]; omega
      have e2 : IntKind.u8.wrap (48 + n) = 48 + n := by rw [IntKind.wrap_u8]; omega
      go_enter Tryz.func23, Tryz.ntmps23
      have hcv : (convert 73 9 (.slice (some ⟨W.heap.size, 0, none⟩) 1 1)).run Tryz.prog (W.alloc (.cells #[.int .u8 (48 + n)] 5)) = .ok (.string ⟨(itB n).toArray⟩) (W.alloc (.cells #[.int .u8 (48 + n)] 5)) := by
        rw [itB_one h0 h10]
        refine run_convert_bytes_back (P := Tryz.prog) _ 73 9 5 ⟨W.heap.size, 0, none⟩ 1 [digC n.toNat] Tryz.underlying73 Tryz.underlying5 Tryz.underlying9 (fun j hj => ?_)
        obtain rfl : j = 0 := by simpa using hj
        have := (Blk.new W 5 #[.int .u8 (48 + n)] _ rfl).cell 0
        refine this.trans ?_
        show some (Value.int .u8 (48 + n)) = some (Value.int .u8 ((digC n.toNat).toNat : Int))
        rw [digC_nat (by omega), show ((48 + n.toNat : Nat) : Int) = 48 + n by omega]
      have hb := bAl (bRefl W) (.cells #[.int .u8 (48 + n)] 5)
      generalize (itB n).toArray = T at *
      go_wp2_with fail
      go_ret
      exact ⟨rfl, hb⟩
    · have q1 := ih (n / 10).toNat (by omega) (n / 10) (by omega) (by omega) rfl
      have q2 := ih (n % 10).toNat (by omega) (n % 10) (by omega) (by omega) rfl
      have e1 : n.tdiv 10 = n / 10 := Int.tdiv_eq_ediv_of_nonneg h0
      have e2 : n.tmod 10 = n % 10 := Int.tmod_eq_emod_of_nonneg h0
      have e3 : IntKind.i64.wrap (n / 10) = n / 10 := by rw [IntKind.wrap_i64]; omega
      have e4 : IntKind.i64.wrap (n % 10) = n % 10 := by rw [IntKind.wrap_i64]; omega
      go_enter Tryz.func23, Tryz.ntmps23
      have hlen : ¬ 9223372036854775807 < (itB (n / 10)).length + (itB (n % 10)).length := by
        have := itB_len (n := n / 10) (okN_iff.2 (by omega))
        have := itB_len (n := n % 10) (okN_iff.2 (by omega))
        omega
      go_wp2_with (go_at_call 23; first | ((with_reducible refine (q1 _).mono ?_); rintro e w1 ⟨rfl, b1⟩) | ((with_reducible refine (q2 _).mono ?_); rintro e w2 ⟨rfl, b2⟩))
      go_ret
      exact ⟨ret_str (by rw [cat_by, ← itB_ten (by omega) (by omega)]), bCall b1 b2⟩
theorem ra_num (n : Int) (h : okN n = true) (W : World) : Calls Tryz.prog 23 #[.int .i64 n] W (Ret (.string ⟨(itB n).toArray⟩) W) := by
  have h1 := okN_iff.1 h
  by_cases h0 : 0 ≤ n
  · exact ra_num0 _ n h0 h1.2 rfl W
  · have q1 := ra_num0 _ (-n) (by omega) (by omega) rfl W
    have g1 : n < 0 := by omega
    have e1 : IntKind.i64.wrap (-n) = -n := by rw [IntKind.wrap_i64]; omega
    have hlen : ¬ 9223372036854775807 < 1 + (itB (-n)).length := by
      have := itB_len (n := -n) (okN_iff.2 (by omega))
      omega
    go_enter Tryz.func23, Tryz.ntmps23
    go_wp2_with (go_at_call 23; (with_reducible refine q1.mono ?_); rintro e w1 ⟨rfl, b1⟩)
    go_ret
    refine ⟨ret_str ?_, b1⟩
    rw [itB_neg g1 (by omega)]
    exact cat_by [45] (itB (-n))
theorem hex_at (k : Nat) (h : k < 16) (h' : k < ({ data := #[48, 49, 50, 51, 52, 53, 54, 55, 56, 57, 97, 98, 99, 100, 101, 102] } : ByteArray).size) : ({ data := #[48, 49, 50, 51, 52, 53, 54, 55, 56, 57, 97, 98, 99, 100, 101, 102] } : ByteArray)[k]'h' = hexC k := by
  have : k = 0 ∨ k = 1 ∨ k = 2 ∨ k = 3 ∨ k = 4 ∨ k = 5 ∨ k = 6 ∨ k = 7 ∨ k = 8 ∨ k = 9 ∨ k = 10 ∨ k = 11 ∨ k = 12 ∨ k = 13 ∨ k = 14 ∨ k = 15 := by omega
  rcases this with rfl | rfl | rfl | rfl | rfl | rfl | rfl | rfl | rfl | rfl | rfl | rfl | rfl | rfl | rfl | rfl <;> rfl
theorem hexI_C {k : Nat} (h : k < 16) : hexI (hexC k) = (k : Int) := by unfold hexI; rw [hexC_val k h]
theorem hexI_no {c : UInt8} (h : ∀ j, j < 16 → hexC j ≠ c) : hexI c = -1 := by
  have hall : (List.range 256).all (fun n => (List.range 16).any (fun j => decide (hexC j = UInt8.ofNat n)) || decide (hexI (UInt8.ofNat n) = -1)) = true := by kernel_rfl
  have h1 := List.all_eq_true.1 hall c.toNat (List.mem_range.2 c.toNat_lt)
  have e : UInt8.ofNat c.toNat = c := by simp
  rw [e, Bool.or_eq_true] at h1
  rcases h1 with h1 | h1
  · obtain ⟨j, hj, hx⟩ := List.any_eq_true.1 h1
    exact absurd (of_decide_eq_true hx) (h j (List.mem_range.1 hj))
  · exact of_decide_eq_true h1
theorem u8_ne {a b : UInt8} (h : a ≠ b) : ((a.toNat : Int) == (b.toNat : Int)) = false := by
  rw [beq_eq_false_iff_ne]
  intro e
  exact h (UInt8.toNat_inj.1 (by omega))
theorem rp_digit (c : UInt8) (W : World) : Calls Tryz.prog 133 #[.int .u8 (c.toNat : Nat)] W (Same (.int .i64 (hexI c)) W) := by
  obtain ⟨v, hv⟩ : ∃ v, Hid (hexI c = v) := ⟨_, Lib.hid rfl⟩
  rw [hv.out]
  go_enter Tryz.func133, Tryz.ntmps133
  go_wp2_with fail
  go_loopw [3] (fun i wr => ∃ k : Nat, k ≤ 16 ∧ i = .int .i64 k ∧ W = wr ∧ Hid (∀ j, j < k → hexC j ≠ c)) (fun i _ => 16 - (intOf i).toNat)
  case atStart => exact ⟨0, by omega, rfl, rfl, Lib.hid (fun j h => absurd h (by omega))⟩
  case round =>
    obtain ⟨k, hk, rfl, rfl, hp⟩ := hrel
    by_cases hlt : k < 16
    · have i0 : (0 : Int) ≤ (k : Int) := by omega
      have i1 : (k : Int) < 16 := by omega
      have hidx := hex_at k hlt
      by_cases hg : hexC k = c
      · have hr : Hid ((k : Int) = v) := Lib.hid (by rw [← hv.out, ← hg]; exact (hexI_C hlt).symm)
        have g1 : (((hexC k).toNat : Int) == (c.toNat : Int)) = true := by rw [hg]; exact beq_self_eq_true _
        clear hg hv
        generalize hexC k = u at *
        go_wp2_with fail
        go_ret
        exact ⟨ret_int hr.out, rfl⟩
      · have g1 := u8_ne hg
        have hp2 : Hid (∀ j, j < k + 1 → hexC j ≠ c) := Lib.hid (fun j hj => by
          by_cases hjk : j = k
          · subst hjk; exact hg
          · exact hp.out j (by omega))
        clear hg hp
        generalize hexC k = u at *
        go_wp2_with fail
        exact ⟨⟨k + 1, by omega, by go_num, trivial, hp2⟩, by simp [intOf]; omega⟩
    · have hr : Hid (v = -1) := Lib.hid (by rw [← hv.out]; exact hexI_no (fun j hj => hp.out j (by omega)))
      obtain rfl := hr.out
      go_wp2_with fail
      go_ret
      exact ⟨rfl, rfl⟩
theorem rp_follows (r last : Nat) (W : World) : Calls Tryz.prog 31 #[.int .i64 (r : Nat), .int .i64 (last : Nat)] W (Same (.bool (followsN r last)) W) := by
  by_cases h1 : (r : Int) = 1
  · have e : followsN r last = decide ((last : Int) = 0) := by unfold followsN; rw [if_pos (by omega)]; exact decide_eq_decide.2 (by omega)
    rw [e]
    go_enter Tryz.func31, Tryz.ntmps31
    go_wp2_with fail
    go_ret
    exact ⟨rfl, rfl⟩
  by_cases h4 : (r : Int) = 4
  · by_cases a1 : 1 ≤ (last : Int)
    · have e : followsN r last = decide ((last : Int) ≤ 6) := by unfold followsN; rw [if_neg (by omega), if_pos (by omega)]; exact decide_eq_decide.2 (by omega)
      rw [e]
      go_enter Tryz.func31, Tryz.ntmps31
      go_wp2_with fail
      go_ret
      exact ⟨rfl, rfl⟩
    · have e : followsN r last = false := by unfold followsN; rw [if_neg (by omega), if_pos (by omega)]; exact decide_eq_false (by omega)
      rw [e]
      go_enter Tryz.func31, Tryz.ntmps31
      go_wp2_with fail
      go_ret
      exact ⟨rfl, rfl⟩
  by_cases h5 : (r : Int) = 5
  · by_cases a1 : (last : Int) = 4
    · have e : followsN r last = true := by unfold followsN; rw [if_neg (by omega), if_neg (by omega), if_pos (by omega)]; exact decide_eq_true (by omega)
      rw [e]
      go_enter Tryz.func31, Tryz.ntmps31
      go_wp2_with fail
      go_ret
      exact ⟨rfl, rfl⟩
    · have e : followsN r last = decide ((last : Int) = 5) := by unfold followsN; rw [if_neg (by omega), if_neg (by omega), if_pos (by omega)]; exact decide_eq_decide.2 (by omega)
      rw [e]
      go_enter Tryz.func31, Tryz.ntmps31
      go_wp2_with fail
      go_ret
      exact ⟨congrArg (fun b => Ending.returned (Value.bool b)) (by rw [Bool.eq_iff_iff]; simp [a1]), rfl⟩
  by_cases h6 : (r : Int) = 6
  · by_cases a1 : 4 ≤ (last : Int)
    · have e : followsN r last = decide ((last : Int) ≤ 6) := by unfold followsN; rw [if_neg (by omega), if_neg (by omega), if_neg (by omega), if_pos (by omega)]; exact decide_eq_decide.2 (by omega)
      rw [e]
      go_enter Tryz.func31, Tryz.ntmps31
      go_wp2_with fail
      go_ret
      exact ⟨rfl, rfl⟩
    · have e : followsN r last = false := by unfold followsN; rw [if_neg (by omega), if_neg (by omega), if_neg (by omega), if_pos (by omega)]; exact decide_eq_false (by omega)
      rw [e]
      go_enter Tryz.func31, Tryz.ntmps31
      go_wp2_with fail
      go_ret
      exact ⟨rfl, rfl⟩
  have hf : followsN r last = decide (1 < r ∧ 1 ≤ last ∧ last ≤ r) := by unfold followsN; rw [if_neg (by omega), if_neg (by omega), if_neg (by omega), if_neg (by omega)]
  rw [hf]
  by_cases b1 : 1 < (r : Int)
  · by_cases b2 : 1 ≤ (last : Int)
    · have e : decide (1 < r ∧ 1 ≤ last ∧ last ≤ r) = decide ((last : Int) ≤ (r : Int)) := decide_eq_decide.2 (by omega)
      rw [e]
      go_enter Tryz.func31, Tryz.ntmps31
      go_wp2_with fail
      go_ret
      exact ⟨congrArg (fun b => Ending.returned (Value.bool b)) (by rw [Bool.eq_iff_iff]; simp), rfl⟩
    · have e : decide (1 < r ∧ 1 ≤ last ∧ last ≤ r) = false := decide_eq_false (by omega)
      rw [e]
      go_enter Tryz.func31, Tryz.ntmps31
      go_wp2_with fail
      go_ret
      exact ⟨rfl, rfl⟩
  · have e : decide (1 < r ∧ 1 ≤ last ∧ last ≤ r) = false := decide_eq_false (by omega)
    rw [e]
    go_enter Tryz.func31, Tryz.ntmps31
    go_wp2_with fail
    go_ret
    exact ⟨rfl, rfl⟩
theorem rp_row (s : ByteArray) (W : World) : Calls Tryz.prog 30 #[.string s] W (Ret (.int .i64 (rowN s.data.toList : Nat)) W) := by
  have hpl := Lib.hid (row_place s)
  obtain ⟨v, hv⟩ : ∃ v : Int, Hid (((rowN s.data.toList : Nat) : Int) = v) := ⟨_, Lib.hid rfl⟩
  rw [hv.out] at hpl ⊢
  have BW := Blk.new W 9 (strs rowsB).toArray _ rfl
  have hb := bAl (bRefl W) (.cells (strs rowsB).toArray 9)
  have hA : Rd (W.alloc (.cells (strs rowsB).toArray 9)) (W.heap.size + 1) 1 (some ⟨W.heap.size, 0, none⟩) rowsB.length (strs rowsB) := ⟨rfl, fun _ => ⟨_, 0, rfl, by omega, fun j u hu => by
    rw [Nat.zero_add, BW.cell, List.getElem?_toArray]; exact hu⟩⟩
  go_enter Tryz.func30, Tryz.ntmps30
  go_upto_region 2 with fail
  have hl : rowsB.length = 10 := rfl
  have hwe : W.alloc (.cells #[.string ⟨#[119, 111, 114, 108, 100]⟩, .string ⟨#[99, 108, 97, 115, 115]⟩, .string ⟨#[116, 105, 101, 114]⟩, .string ⟨#[108, 105, 110, 101]⟩, .string ⟨#[114, 117, 108, 101]⟩, .string ⟨#[103, 97, 112]⟩, .string ⟨#[111, 114, 100, 101, 114]⟩, .string ⟨#[101, 110, 116, 114, 121]⟩, .string ⟨#[115, 101, 99, 114, 101, 116]⟩, .string ⟨#[102, 97, 117, 108, 116]⟩] 9) = W.alloc (.cells (strs rowsB).toArray 9) := rfl
  rw [hwe]
  clear BW hwe
  generalize W.alloc (.cells (strs rowsB).toArray 9) = w1 at *
  generalize rowsB = l at *
  go_wp2_with fail
  go_loopw [4] (fun i wr => ∃ k : Nat, k ≤ 10 ∧ i = .int .i64 k ∧ w1 = wr ∧ Hid (∀ y ∈ l.take k, decide (s = y) = false)) (fun i _ => 10 - (intOf i).toNat)
  case atStart => exact ⟨0, Nat.zero_le _, rfl, rfl, Lib.hid (by simp)⟩
  case round =>
    obtain ⟨k, hkn, rfl, rfl, hp⟩ := hrel
    by_cases hlt : k < 10
    · obtain ⟨x, hx⟩ : ∃ x, Hid (l[k]? = some x) := ⟨_, Lib.hid (List.getElem?_eq_getElem (by omega))⟩
      obtain ⟨b, off, hA1, hbb, c0⟩ := Str_at hA (by omega) hx.out
      injection hA1 with hA1
      injection hA1 with h1 h2 h3
      subst h1; subst h2
      rw [Nat.zero_add] at c0
      have i0 : (0 : Int) ≤ (k : Int) := by omega
      have i1 : (k : Int) < 10 := by omega
      by_cases hg : x = s
      · have hres := Lib.hid (hpl.out.symm.trans (firstI_at hp.out hx.out (decide_eq_true hg.symm)))
        subst hg
        go_wp2_with fail
        go_ret
        exact ⟨ret_int (by have := hres.out; omega), hb⟩
      · have hp' := Lib.hid (take_on (p := fun t => decide (s = t)) hp.out hx.out (decide_eq_false (fun e => hg e.symm)))
        have hg2 := str_ne hg
        clear hg
        go_wp2_with fail
        exact ⟨⟨k + 1, by omega, by go_num, trivial, hp'⟩, by simp [intOf]; omega⟩
    · have hres : Hid (v - 1 = -1) := Lib.hid (hpl.out.symm.trans (firstI_none (by have := hp.out; rwa [List.take_of_length_le (by omega)] at this)))
      obtain rfl : v = 0 := by have := hres.out; omega
      go_wp2_with fail
      go_ret
      exact ⟨rfl, hb⟩
end Go.Proofs.YtmbopkcmbiommaaGreatDoor
