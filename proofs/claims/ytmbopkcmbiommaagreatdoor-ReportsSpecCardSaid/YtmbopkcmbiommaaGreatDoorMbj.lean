/-
  reports.printer: rows that are put; what the printer holds midway.
-/
import Derived.Test.YtmbopkcmbiommaaGreatDoorMbg
import Derived.Test.YtmbopkcmbiommaaGreatDoorMbi
namespace Go.Proofs.YtmbopkcmbiommaaGreatDoor
open Go Go.RowKit

theorem Itm.At.below {x : Itm} {w w' : World} {b : Nat} (h : x.At w b) (hb : Below b w w') : x.At w' b := by
  cases x with
  | num n => exact trivial
  | flag y => exact trivial
  | nums A c l => exact ⟨h.1.below hb, h.2⟩
  | seed d => exact h
/-- A row is put. -/
theorem put_row (b : Nat) (l : By) (r : Rw) (items : List Itm) (word : ByteArray) (w : World) (hw : word.data.toList = wordN r.1) (ht : itmsT items = numsT r.2) (hg : items.all Itm.good = okR r) (hwt : itmsW items = 15 * r.2.length) (h : PAt w b l) (hi : ∀ x ∈ items, x.At w b) (hl : l.length + rmR r ≤ 1000000000) (hn : items.length ≤ 100) (hG : LibG b w) :
    Calls Tryz.prog 43 #[.pointer (some ⟨b, 0, none⟩), .string word, .slice (some ⟨w.heap.size, 0, none⟩) items.length items.length] (w.alloc (.cells (items.map Itm.val).toArray 20)) (fun e w' => (okR r = true → e = .returned (.tuple #[]) ∧ PAt w' b (l ++ rowT r)) ∧ (okR r = false → e = PanW) ∧ PKeep b w w') := by
  have hlt := h.lt
  have hb := bAl (bRefl w) (.cells (items.map Itm.val).toArray 20)
  have k1 := PKeep.of hb (Nat.le_of_lt hlt) rfl
  have hsz : word.size ≤ 6 := by
    have h2 : word.data.toList.length = word.size := by rw [Array.length_toList]; rfl
    have h3 := wordN_len r.1
    rw [← hw] at h3
    omega
  refine (pr_put b w.heap.size l word items _ (h.of_below hb) (Blk.new w _ _ _ rfl) (by omega) (fun x hx => (hi x hx).below k1.bl) (by unfold rmR at hl; rw [hwt]; omega) hn (hG.below k1.bl)).mono ?_
  rintro e w' ⟨h1, h2⟩
  rw [hg] at h1
  refine ⟨fun h3 => ?_, fun h3 => ?_, k1.trans h2⟩
  · rw [if_pos h3] at h1
    refine ⟨h1.1, ?_⟩
    have h4 := h1.2
    rw [hw, ht] at h4
    unfold rowT
    rw [← List.append_assoc, ← List.append_assoc]
    exact h4
  · rw [h3] at h1
    exact h1
theorem itms_nums (l : List Int) : itmsT (l.map Itm.num) = numsT l := by
  unfold itmsT numsT
  rw [List.flatMap_map]
  rfl
theorem itms_good (l : List Int) : (l.map Itm.num).all Itm.good = l.all okN := by
  rw [List.all_map]
  rfl
theorem itms_wt (l : List Int) : itmsW (l.map Itm.num) = 15 * l.length := by
  unfold itmsW
  induction l with
  | nil => rfl
  | cons x l ih =>
    rw [List.map_cons, List.map_cons, List.sum_cons, ih, List.length_cons]
    show 15 + _ = _
    omega
/-- A row of numbers. -/
theorem put_nums (b : Nat) (l : By) (r : Rw) (word : ByteArray) (w : World) (hw : word.data.toList = wordN r.1) (h : PAt w b l) (hl : l.length + rmR r ≤ 1000000000) (hn : r.2.length ≤ 100) (hG : LibG b w) :
    Calls Tryz.prog 43 #[.pointer (some ⟨b, 0, none⟩), .string word, .slice (some ⟨w.heap.size, 0, none⟩) r.2.length r.2.length] (w.alloc (.cells (r.2.map (fun n => Value.iface 3 (.int .i64 n))).toArray 20)) (fun e w' => (okR r = true → e = .returned (.tuple #[]) ∧ PAt w' b (l ++ rowT r)) ∧ (okR r = false → e = PanW) ∧ PKeep b w w') := by
  have := put_row b l r (r.2.map Itm.num) word w hw (itms_nums _) (itms_good _) (itms_wt _) h (fun x hx => by obtain ⟨n, _, rfl⟩ := List.mem_map.1 hx; exact trivial) hl (by rw [List.length_map]; exact hn) hG
  rw [List.length_map, List.map_map] at this
  exact this
/-- What the printer holds midway. -/
structure WI (b X0 : Nat) (X : Array Value) (x : Wld) (W w : World) (done : List Rw) : Prop where
  p : PAt w b (headT x ++ done.flatMap rowT)
  k : PKeep b W w
  bx : Blk w X0 35 X
  bk : Blk w (X0 + 1) 4 #[.bool true]
  ok : done.all okR = true
section
variable {b X0 : Nat} {X : Array Value} {x : Wld} {W w w' : World} {done : List Rw} {r : Rw}
theorem WI.al (h : WI b X0 X x W w done) (o : Obj) : WI b X0 X x W (w.alloc o) done :=
  ⟨h.p.of_below (bAl (bRefl w) o), h.k.trans (PKeep.of (bAl (bRefl w) o) (Nat.le_of_lt h.p.lt) rfl), h.bx.alloc o, h.bk.alloc o, h.ok⟩
theorem WI.put (h : WI b X0 X x W w done) (hp : PAt w' b ((headT x ++ done.flatMap rowT) ++ rowT r)) (k : PKeep b w w') (hr : okR r = true) (hX : b < X0) : WI b X0 X x W w' (done ++ [r]) := by
  refine ⟨?_, h.k.trans k, k.blk h.bx (by omega) (by decide), k.blk h.bk (by omega) (by decide), ?_⟩
  · rw [List.flatMap_append, ← List.append_assoc]
    simpa using hp
  · rw [List.all_append, h.ok]
    simp [hr]
/-- The rows that have been put, and those that are left. -/
theorem WI.room (h : WI b X0 X x W w done) {rest : List Rw} (hr : x.rows = done ++ r :: rest) (hm : x.room ≤ 1000000000) (hs : x.seed.length = 32) (hh : okHead x = true) : (headT x ++ done.flatMap rowT).length + rmR r ≤ 1000000000 := by
  have h1 := headT_len hh hs
  have h2 := rows_len_le h.ok
  unfold Wld.room at hm
  rw [hr, rmS_app] at hm
  have h3 : rmS (r :: rest) = rmR r + rmS rest := by unfold rmS; rw [List.map_cons, List.sum_cons]
  rw [List.length_append]
  omega
theorem bad_row {rest : List Rw} (hr : x.rows = done ++ r :: rest) (h : okR r = false) : x.okW = false := by
  unfold Wld.okW
  rw [hr, List.all_append, List.all_cons, h]
  simp
end
theorem split_map {α : Type} {f : α → Rw} {l : List α} {k : Nat} {y : α} {R D T : List Rw} (h : R = D ++ (l.map f ++ T)) (hy : l[k]? = some y) : R = (D ++ (l.take k).map f) ++ f y :: ((l.drop (k + 1)).map f ++ T) := by
  obtain ⟨hk, rfl⟩ := List.getElem?_eq_some_iff.1 hy
  have e : l = l.take k ++ l[k] :: l.drop (k + 1) := by rw [← List.drop_eq_getElem_cons hk, List.take_append_drop]
  have e2 : l.map f = (l.take k).map f ++ f l[k] :: (l.drop (k + 1)).map f := (congrArg (List.map f) e).trans (by rw [List.map_append, List.map_cons])
  rw [h, e2]
  simp only [List.append_assoc, List.cons_append]
theorem take_map {α : Type} {f : α → Rw} {l : List α} {k : Nat} {y : α} (D : List Rw) (hy : l[k]? = some y) : D ++ (l.take (k + 1)).map f = (D ++ (l.take k).map f) ++ [f y] := by
  rw [take_more hy, List.map_append, List.append_assoc]
  rfl
theorem split_lin {l : List Lin} {k : Nat} {y : Lin} {R D T : List Rw} (h : R = D ++ (l.flatMap linR ++ T)) (hy : l[k]? = some y) : R = (D ++ (l.take k).flatMap linR) ++ lineR y :: (y.rules.map ruleR ++ (y.off.map gapR ++ ((l.drop (k + 1)).flatMap linR ++ T))) := by
  obtain ⟨hk, rfl⟩ := List.getElem?_eq_some_iff.1 hy
  have e : l = l.take k ++ l[k] :: l.drop (k + 1) := by rw [← List.drop_eq_getElem_cons hk, List.take_append_drop]
  have e2 : l.flatMap linR = (l.take k).flatMap linR ++ (linR l[k] ++ (l.drop (k + 1)).flatMap linR) := (congrArg (List.flatMap linR) e).trans (by rw [List.flatMap_append, List.flatMap_cons])
  have e3 : linR l[k] = lineR l[k] :: (l[k].rules.map ruleR ++ l[k].off.map gapR) := rfl
  rw [h, e2, e3]
  simp only [List.append_assoc, List.cons_append]
theorem take_lin {l : List Lin} {k : Nat} {y : Lin} (D : List Rw) (hy : l[k]? = some y) : D ++ (l.take (k + 1)).flatMap linR = ((D ++ (l.take k).flatMap linR) ++ [lineR y] ++ y.rules.map ruleR) ++ y.off.map gapR := by
  rw [take_more hy, List.flatMap_append]
  show D ++ (_ ++ [y].flatMap linR) = _
  rw [show [y].flatMap linR = linR y by simp]
  unfold linR
  simp
end Go.Proofs.YtmbopkcmbiommaaGreatDoor
