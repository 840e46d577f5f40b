/-
  append as one step of a region that draws its order.
-/
import Derived.Test.YthgppaiiapkdjaaGreatDoorMaf
import Derived.Deep.RegionLawGrows
import Derived.Deep.AppendLies
import Derived.Deep.RegionHeld3
import Derived.Lib.AppendStr
import Derived.Test.YthgppaiiapkdjaaGreatDoorMag
import Derived.Laws.EntriesVeiled
namespace Go.Proofs.YthgppaiiapkdjaaGreatDoor
open Go.RowKit

/-- append of what lies in a block that is known whole. -/
theorem step_appendB {P : Program} {ops : Array Oper} {o : Oper} {a : Act} {w : World} {K : Act → World → Prop} {Q : Exit → Act → World → Prop} {E : Prop}
    (hgd : o.guard = none) (s x : Operand) (t : TypeId) (ho : o.op = .call { callee := .builtin .append, args := #[s, x], argTypes := #[t, t] })
    (base : Nat) (e : TypeId) (z : Value) (size bytes : Nat) (ht : P.underlying t = some (.slice e)) (hinfo : (P.info? e).map (fun i => (i.zero, i.size, i.bytes)) = some (some z, size, bytes)) (hzs : z.cells.size = size) (hsz : 0 < size)
    (v : Value) (n : Nat) (xs : List Value) (hs : a.eval s = v) (hown : w.ownsRow base e size v n xs) (g : Nat) (te : TypeId) (m c : Nat) (news : List Value) (hx : a.eval x = .slice (some ⟨g, 0, none⟩) m c) (hB : Blk w g te news.toArray) (hl : news.length = m * size) (hm : 0 < m)
    (h1 : ∀ u ∈ news, u.oneCell' = true) (h63 : n + m ≤ maxLen) (hbytes : (n + m) * bytes ≤ 140737488355328) (hbase : base ≤ w.heap.size)
    (hK : ∀ v' w', w'.ownsRow base e size v' (n + m) (xs ++ news) → Grew w w' v v' → K (a.put o.dst v') w') :
    if Region.wanted o (yielded ops a.tmps) = true then Oper.wp P o a w K Q else E := by
  obtain ⟨i0, hi, hz0, hz1, hz2⟩ := info_parts hinfo
  refine step_append_lies w hgd s x t ho base e i0 z size bytes ht hi hz0 hz1 hz2 hzs hsz v n xs hs hown ⟨g, 0, none⟩ m c news hx hl ?_ h1 hm h63 hbytes hbase _ rfl ?_
  · intro j u hu
    rw [addr_plus, Nat.zero_add, hB.cell j]
    simpa using hu
  · intro g' cap w' hown' hgrow hat _
    refine hK _ w' hown' ⟨hgrow, ?_⟩
    rcases hat with h | h
    · exact .inl h.symm
    · exact .inr ⟨g', rfl, by omega⟩

/-- append of a string's bytes: where the new row lies, too. -/
theorem run_append_strG {P : Program} (w : World) (base : Nat) (t u ty e : TypeId) (i : TypeInfo) (ht : P.underlying t = some (.slice e)) (hu : P.underlying u = some .string) (hi : P.info? e = some i) (hz : i.zero = some (.int .u8 0))
    (hsize : i.size = 1) (hby : i.bytes = 1) (v : Value) (n : Nat) (xs : List Value) (hown : w.ownsRow base e 1 v n xs) (s : ByteArray) (h63 : n + s.size ≤ maxLen) (hbytes : n + s.size ≤ 140737488355328) (hbase : base ≤ w.heap.size) :
    ∃ v' w', (Builtin.append_ #[t, u] ty #[v, .string s]).run P w = .ok v' w' ∧ w'.ownsRow base e 1 v' (n + s.size) (xs ++ Lib.strCells s) ∧ Grew w w' v v' := by
  obtain ⟨v', w', hr, h2, h3, h4⟩ := Lib.run_append_own_string w base t u ty e i ht hu hi hz hsize hby v n xs hown s h63 hbytes hbase
  refine ⟨v', w', hr, h2, h3, ?_⟩
  have hsm : n + s.size ≤ 9223372036854775807 := by simp only [maxLen] at h63; omega
  have hxl : xs.length = n := by simpa using hown.1
  rcases hown.2 with ⟨hv, hn⟩ | ⟨g, cap, cur, hv, hbg, hg, hnc, hcm, hcs, htake⟩
  · subst hv; subst hn
    by_cases hm : s.size = 0
    · have := h4.2 ⟨rfl, hm⟩
      rw [this]; exact .inl rfl
    · have hr2 := run_append_nil_string (P := P) w t u ty e i (.int .u8 0) ht hu hi hz s (by omega) (by omega) (by rw [hby]; omega)
      rw [hr] at hr2
      injection hr2 with e1 e2
      rw [e1]
      exact .inr ⟨_, rfl, Nat.le_refl _⟩
  · subst hv
    by_cases hroom : n + s.size ≤ cap
    · have hr2 := Lib.run_append_room_string (P := P) w t u ty e i ht hu hi hsize g n cap cur hg s hroom (by omega)
      rw [hr] at hr2
      injection hr2 with e1 e2
      rw [e1]
      exact .inl rfl
    · have holds : ∀ j u, xs[j]? = some u → w.cell? ((⟨g, 0, none⟩ : Addr).add j) = some u := hown.cells (g := g) rfl
      have hr2 := Lib.run_append_grow_string (P := P) w t u ty e i (.int .u8 0) ht hu hi hz ⟨g, 0, none⟩ n cap xs (by rw [hsize]; simpa using hxl) holds s (by omega) (by omega) (by rw [hby]; exact growslice_fits (by omega) (by omega))
      rw [hr] at hr2
      injection hr2 with e1 e2
      rw [e1]
      exact .inr ⟨_, rfl, Nat.le_refl _⟩
theorem step_append_str {P : Program} {ops : Array Oper} {o : Oper} {a : Act} {w : World} {K : Act → World → Prop} {Q : Exit → Act → World → Prop} {E : Prop}
    (hgd : o.guard = none) (sl x : Operand) (t u : TypeId) (ho : o.op = .call { callee := .builtin .append, args := #[sl, x], argTypes := #[t, u] })
    (base : Nat) (e : TypeId) (ht : P.underlying t = some (.slice e)) (hu : P.underlying u = some .string) (hinfo : (P.info? e).map (fun i => (i.zero, i.size, i.bytes)) = some (some (.int .u8 0), 1, 1))
    (v : Value) (n : Nat) (xs : List Value) (hs : a.eval sl = v) (hown : w.ownsRow base e 1 v n xs) (s : ByteArray) (hx : a.eval x = .string s)
    (h63 : n + s.size ≤ maxLen) (hbytes : n + s.size ≤ 140737488355328) (hbase : base ≤ w.heap.size)
    (hK : ∀ v' w', w'.ownsRow base e 1 v' (n + s.size) (xs ++ Lib.strCells s) → Grew w w' v v' → K (a.put o.dst v') w') :
    if Region.wanted o (yielded ops a.tmps) = true then Oper.wp P o a w K Q else E := by
  obtain ⟨i0, hi, hz0, hz1, hz2⟩ := info_parts hinfo
  have hw : Region.wanted o (yielded ops a.tmps) = true := by simp [Region.wanted, hgd]
  rw [if_pos hw]
  obtain ⟨v', w', hr, h2, h3⟩ := run_append_strG (P := P) w base t u o.type e i0 ht hu hi hz0 hz1 hz2 v n xs hown s h63 hbytes hbase
  unfold Oper.wp execOp
  simp only [ho, resolve, invoke, builtin, Sem.run_bind, Sem.run_pure, Result.andThen_ok, List.map_toArray, List.map_cons, List.map_nil, hs, hx, hr]
  exact hK _ _ h2 h3

end Go.Proofs.YthgppaiiapkdjaaGreatDoor

/-
  The codec: the writer and Encode, walked.
-/
namespace Go.Proofs.YthgppaiiapkdjaaGreatDoor
open Go.RowKit

/-- The writer lies in memory: the four kinds, and the variable that names it. -/
def WrB (w : World) (b : Nat) : Prop :=
  Blk w b 170 #[.nilFunc, .func (.func 110) #[] #[], .func (.func 113) #[] #[], .func (.func 114) #[] #[.pointer (some ⟨b + 1, 0, none⟩)]] ∧ Blk w (b + 1) 153 #[.pointer (some ⟨b, 0, none⟩)]

theorem WrB.list {w : World} {b : Nat} (h : WrB w b) : w.cell? ⟨b, 3, none⟩ = some (.func (.func 114) #[] #[.pointer (some ⟨b + 1, 0, none⟩)]) := h.1.cell 3

theorem box_cells {w : World} {b : Nat} {t : TypeId} {x0 x1 x2 x3 : Value} (h : Blk w b t #[x0, x1, x2, x3]) : w.cell? ⟨b, 0, none⟩ = some x0 ∧ w.cell? ⟨b, 1, none⟩ = some x1 ∧ w.cell? ⟨b, 2, none⟩ = some x2 ∧ w.cell? ⟨b, 3, none⟩ = some x3 := ⟨h.cell 0, h.cell 1, h.cell 2, h.cell 3⟩

set_option maxRecDepth 100000 in
set_option maxHeartbeats 2000000 in
theorem writer_any (W : World) : Calls Tryz.prog 99 #[] W (fun r w' => r = .returned (.pointer (some ⟨W.heap.size, 0, none⟩)) ∧ Below W.heap.size W w' ∧ WrB w' W.heap.size) := by
  have hmf : ∀ (fn : Fn) (first cap : Array Value) (w : World), (Instr.makeFunc fn first cap).run Tryz.prog w = .ok (.func fn first cap) w := fun _ _ _ _ => rfl
  go_enter Tryz.func99, Tryz.ntmps99
  go_wp2_with fail
  go_ret
  exact ⟨rfl, bAl (bAl (bRefl _) _) _, (Blk.new _ _ _ _ rfl).alloc _, Blk.new _ _ _ _ (by simp)⟩

set_option maxRecDepth 100000 in
set_option maxHeartbeats 2000000 in
theorem write_int (base : Nat) (v : Value) (n : Nat) (xs : List Value) (m : Int) (W : World) (hown : W.ownsRow base 5 1 v n xs) (hbase : base ≤ W.heap.size) (hm : (It.int m).ok) (hn : n ≤ 70368744170000) :
    Calls Tryz.prog 110 #[v, .agg #[.int .i64 1, .int .i64 m, .string ⟨#[]⟩, .slice none 0 0]] W (App base v n xs (It.int m).enc W) := by
  go_enter Tryz.func110, Tryz.ntmps110
  have BX := Blk.new W 140 #[.int .i64 1, .int .i64 m, .string ⟨#[]⟩, .slice none 0 0] _ rfl
  have hown1 := hown.alloc (.cells #[.int .i64 1, .int .i64 m, .string ⟨#[]⟩, .slice none 0 0] 140)
  have hb1 := bAl (bRefl W) (.cells #[.int .i64 1, .int .i64 m, .string ⟨#[]⟩, .slice none 0 0] 140)
  have hone : ∀ q ∈ [Value.int .u8 1], q.oneCell' = true := by intro q hq; simp at hq; subst hq; rfl
  have h63 : n + 1 ≤ maxLen := by unfold maxLen; omega
  have hby : (n + 1) * 1 ≤ 140737488355328 := by omega
  obtain ⟨m0, m1⟩ := hm
  have hun := unsN_lt m0 m1
  have hbW1 := Nat.le_trans hbase hb1.size
  go_wp2_with fail
  generalize W.alloc (.cells #[.int .i64 1, .int .i64 m, .string ⟨#[]⟩, .slice none 0 0] 140) = w1 at *
  have c1 : w1.cell? ⟨W.heap.size, 1, none⟩ = some (.int .i64 m) := BX.cell 1
  go_region_held3 (fun w' => w'.cell? ⟨W.heap.size, 1, none⟩ = some (.int .i64 m))
    (first | exact BX6.cell 1 | exact BX5.cell 1 | exact BX.cell 1 | exact (BX.below (by repeat (first | exact bRefl _ | refine bAl ?_ _ | refine bDr ?_)) BX.lt).cell 1)
    (first
    | (refine step_appendB rfl (.tmp 5) (.tmp 6) 128 rfl base 5 (.int .u8 0) 1 1 Tryz.underlying128 byte_info (by rfl) (by omega) v n xs (by rfl) (by first | exact hown1.drew.alloc _ | exact (hown1.alloc _).drew | exact hown1.alloc _) _ 5 1 1 [.int .u8 1] (by rfl) (by first | exact Blk.new _ _ _ _ rfl | exact Blk.new _ _ _ _ (by simp)) (by rfl) (by omega) hone h63 hby (by simp <;> omega) ?_
       intro v5 w5 hown5 hg5
       have BX5 : Blk w5 W.heap.size 140 #[.int .i64 1, .int .i64 m, .string ⟨#[]⟩, .slice none 0 0] := hg5.blk (by first | exact hown1.drew.alloc _ | exact (hown1.alloc _).drew | exact hown1.alloc _) (BX.below (by repeat (first | exact bRefl _ | refine bAl ?_ _ | refine bDr ?_)) BX.lt) (by decide))
    | (go_simp; go_at_call 112; refine (unsigned_any m _ m0 m1).mono ?_; rintro e w' ⟨rfl, rfl⟩)
    | (go_simp; go_at_call 111; refine (numeral_any base v5 (n + 1) _ (unsN m) w5 hown5 (Nat.le_trans (by simp <;> omega) hg5.size) hun (by omega)).mono ?_; rintro e w6 ⟨v6, rfl, hown6, hg6⟩; have BX6 := hg6.blk hown5 BX5 (by decide)))
  go_wp2_with fail
  go_ret
  refine ⟨_, rfl, ?_, Grew.pre (bDr (bAl hb1 _)) (hg5.trans hg6)⟩
  simpa [It.enc, byts, Nat.add_assoc, Nat.add_comm 1] using hown6

theorem strCells_byts (s : ByteArray) : Lib.strCells s = byts (sb s) := by
  unfold Lib.strCells byts sb; simp

set_option maxRecDepth 100000 in
set_option maxHeartbeats 2000000 in
theorem write_text (base : Nat) (v : Value) (n : Nat) (xs : List Value) (s : ByteArray) (W : World) (hown : W.ownsRow base 5 1 v n xs) (hbase : base ≤ W.heap.size) (hm : (It.text s).ok) (hn : n ≤ 70368744100000) :
    Calls Tryz.prog 113 #[v, .agg #[.int .i64 2, .int .i64 0, .string s, .slice none 0 0]] W (App base v n xs (It.text s).enc W) := by
  go_enter Tryz.func113, Tryz.ntmps113
  have BX := Blk.new W 140 #[.int .i64 2, .int .i64 0, .string s, .slice none 0 0] _ rfl
  have hown1 := hown.alloc (.cells #[.int .i64 2, .int .i64 0, .string s, .slice none 0 0] 140)
  have hb1 := bAl (bRefl W) (.cells #[.int .i64 2, .int .i64 0, .string s, .slice none 0 0] 140)
  have hone : ∀ q ∈ [Value.int .u8 2], q.oneCell' = true := by intro q hq; simp at hq; subst hq; rfl
  have h63 : n + 1 ≤ maxLen := by unfold maxLen; omega
  have hby : (n + 1) * 1 ≤ 140737488355328 := by omega
  have hm' : s.size ≤ 1000000 := hm
  have hnl := (numF_len 10 s.size).2
  have hbW1 := Nat.le_trans hbase hb1.size
  go_wp2_with fail
  generalize W.alloc (.cells #[.int .i64 2, .int .i64 0, .string s, .slice none 0 0] 140) = w1 at *
  have c1 : w1.cell? ⟨W.heap.size, 2, none⟩ = some (.string s) := BX.cell 2
  have hL : Hid ((numN s.size).length ≤ 11) := hnl
  clear hm hnl
  have hW : Hid (IntKind.u64.wrap (s.size : Int) = (s.size : Int)) := by show _ = _; rw [IntKind.wrap_u64]; omega
  go_region_held3 (fun w' => w'.cell? ⟨W.heap.size, 2, none⟩ = some (.string s))
    (first | exact BX7.cell 2 | exact BX6.cell 2 | exact BX5.cell 2 | exact BX.cell 2 | exact (BX.below (by repeat (first | exact bRefl _ | refine bAl ?_ _ | refine bDr ?_)) BX.lt).cell 2)
    (first
    | (refine step_appendB rfl (.tmp 5) (.tmp 6) 128 rfl base 5 (.int .u8 0) 1 1 Tryz.underlying128 byte_info (by rfl) (by omega) v n xs (by rfl) (by first | exact hown1.drew.alloc _ | exact (hown1.alloc _).drew | exact hown1.alloc _) _ 5 1 1 [.int .u8 2] (by rfl) (by first | exact Blk.new _ _ _ _ rfl | exact Blk.new _ _ _ _ (by simp)) (by rfl) (by omega) hone h63 hby (by simp <;> omega) ?_
       intro v5 w5 hown5 hg5
       have BX5 : Blk w5 W.heap.size 140 #[.int .i64 2, .int .i64 0, .string s, .slice none 0 0] := hg5.blk (by first | exact hown1.drew.alloc _ | exact (hown1.alloc _).drew | exact hown1.alloc _) (BX.below (by repeat (first | exact bRefl _ | refine bAl ?_ _ | refine bDr ?_)) BX.lt) (by decide))
    | (refine step_append_str rfl (.tmp 12) (.tmp 14) 128 9 rfl base 5 Tryz.underlying128 Tryz.underlying9 byte_info v6 (n + 1 + (numN s.size).length) _ (by rfl) hown6 s (by rfl) (by have := hL.out; unfold maxLen; omega) (by have := hL.out; omega) (Nat.le_trans (by simp <;> omega) (hg5.trans hg6).size) ?_
       intro v7 w7 hown7 hg7
       have BX7 := hg7.blk hown6 BX6 (by decide))
    | (go_simp; go_at_call 111; rw [hW.out]; (with_reducible refine (numeral_any base v5 (n + 1) _ s.size w5 hown5 (Nat.le_trans (by simp <;> omega) hg5.size) (by omega) (by omega)).mono ?_); rintro e w6 ⟨v6, rfl, hown6, hg6⟩; have BX6 := hg6.blk hown5 BX5 (by decide)))
  all_goals
    go_wp2_with fail
    go_ret
    refine ⟨_, rfl, ?_, Grew.pre (bDr (bAl hb1 _)) ((hg5.trans hg6).trans hg7)⟩
    rw [strCells_byts] at hown7
    simpa [It.enc, byts, sb_len, Nat.add_assoc, Nat.add_comm 1] using hown7

/-- One value, by its kind. -/
def It.fn : It → Nat
  | .int _ => 110
  | .text _ => 113
theorem write_it (base : Nat) (v : Value) (n : Nat) (xs : List Value) (x : It) (W : World) (hown : W.ownsRow base 5 1 v n xs) (hbase : base ≤ W.heap.size) (hm : x.ok) (hn : n ≤ 70368744100000) :
    Calls Tryz.prog x.fn #[v, x.agg] W (App base v n xs x.enc W) := by
  cases x with
  | int m => exact write_int base v n xs m W hown hbase hm (by omega)
  | text s => exact write_text base v n xs s W hown hbase hm hn

set_option maxRecDepth 100000 in
set_option maxHeartbeats 2000000 in
theorem write_list (A : Option Addr) (n c bw : Nat) (l : List It) (W : World) (hA : Rd W W.heap.size 4 A n (l.flatMap It.cells)) (hw : WrB W bw) (hok : ∀ x ∈ l, x.ok) (hn : n ≤ 1000) :
    Calls Tryz.prog 114 #[.slice none 0 0, listV A n c, .pointer (some ⟨bw + 1, 0, none⟩)] W (fun r w' => ∃ v', r = .returned v' ∧ w'.ownsRow W.heap.size 5 1 v' (encN l).length (byts (encN l)) ∧ Below W.heap.size W w') := by
  obtain rfl : l.length = n := by have := hA.1; rw [flat_len It.cells_length] at this; omega
  unfold listV
  go_enter Tryz.func114, Tryz.ntmps114
  go_wp2_with fail
  have BX := Blk.new W 140 #[.int .i64 3, .int .i64 0, .string ⟨#[]⟩, .slice A l.length c] _ rfl
  have hb1 := bAl (bRefl W) (.cells #[.int .i64 3, .int .i64 0, .string ⟨#[]⟩, .slice A l.length c] 140)
  have hone : ∀ q ∈ [Value.int .u8 3], q.oneCell' = true := by intro q hq; simp at hq; subst hq; rfl
  have hWU : Hid (IntKind.u64.wrap (l.length : Int) = (l.length : Int)) := by show _ = _; rw [IntKind.wrap_u64]; omega
  have hnil : ∀ w : World, w.ownsRow W.heap.size 5 1 (.slice none 0 0) 0 [] := fun w => World.ownsRow_nil _ _ _ _
  generalize W.alloc (.cells #[.int .i64 3, .int .i64 0, .string ⟨#[]⟩, .slice A l.length c] 140) = w1 at *
  have c1 : w1.cell? ⟨W.heap.size, 3, none⟩ = some (.slice A l.length c) := BX.cell 3
  have hb1s := hb1.size
  go_cut [0] (fun s0 wc => ∃ v, s0 = v ∧ wc.ownsRow W.heap.size 5 1 v (1 + (numN l.length).length) (byts (3 :: numN l.length)) ∧ Below W.heap.size W wc ∧ Blk wc W.heap.size 140 #[.int .i64 3, .int .i64 0, .string ⟨#[]⟩, .slice A l.length c])
  case first =>
    go_region_held3 (fun w' => w'.cell? ⟨W.heap.size, 3, none⟩ = some (.slice A l.length c))
      (first | exact BX6.cell 3 | exact BX5.cell 3 | exact BX.cell 3 | exact (BX.below (by repeat (first | exact bRefl _ | refine bAl ?_ _ | refine bDr ?_)) BX.lt).cell 3)
      (first
      | (refine step_appendB rfl (.tmp 8) (.tmp 9) 128 rfl W.heap.size 5 (.int .u8 0) 1 1 Tryz.underlying128 byte_info (by rfl) (by omega) (.slice none 0 0) 0 [] (by rfl) (hnil _) _ 5 1 1 [.int .u8 3] (by rfl) (by first | exact Blk.new _ _ _ _ rfl | exact Blk.new _ _ _ _ (by simp)) (by rfl) (by omega) hone (by unfold maxLen; omega) (by omega) (by simp <;> omega) ?_
         intro v5 w5 hown5 hg5
         have BX5 : Blk w5 W.heap.size 140 #[.int .i64 3, .int .i64 0, .string ⟨#[]⟩, .slice A l.length c] := hg5.blk (hnil _) (BX.below (by repeat (first | exact bRefl _ | refine bAl ?_ _ | refine bDr ?_)) BX.lt) (by decide))
      | (go_simp; go_at_call 111; rw [hWU.out]; (with_reducible refine (numeral_any W.heap.size v5 (0 + 1) _ l.length w5 hown5 (Nat.le_trans (by simp <;> omega) hg5.size) (by omega) (by omega)).mono ?_); rintro e w6 ⟨v6, rfl, hown6, hg6⟩; have BX6 := hg6.blk hown5 BX5 (by decide)))
    all_goals
      go_wp2_with fail
      go_meet
      refine ⟨_, rfl, by simpa [byts] using hown6, ?_, BX6⟩
      exact ((bDr (bAl hb1 _)).trans (hg5.below (hnil _) (by simp <;> omega))).trans (hg6.below hown5 (Nat.le_trans (by simp <;> omega) hg5.size))
  case rest =>
    obtain ⟨v, rfl, hown, hb, BX2⟩ := hcut
    have c2 : wc.cell? ⟨W.heap.size, 3, none⟩ = some (.slice A l.length c) := BX2.cell 3
    go_wp2_with fail
    go_loopw [0, 19] (fun v i wr => ∃ k : Nat, k ≤ l.length ∧ i = .int .i64 k ∧ wr.ownsRow W.heap.size 5 1 v (1 + (numN l.length).length + (encL (l.take k)).length) (byts (3 :: numN l.length ++ encL (l.take k))) ∧ Below W.heap.size W wr) (fun _ i _ => l.length - (intOf i).toNat)
    case atStart => exact ⟨0, Nat.zero_le _, rfl, by simpa [encL] using hown, hb⟩
    case round =>
      clear hown hb BX2 c2
      obtain ⟨k, hk, rfl, hown, hb⟩ := hrel
      by_cases hlt : k < l.length
      · obtain ⟨x, hx⟩ : ∃ x, Hid (l[k]? = some x) := ⟨_, Lib.hid (List.getElem?_eq_getElem hlt)⟩
        obtain ⟨b, off, rfl, hbb, hc⟩ := It_at (hA.below hb) hlt hx.out
        have hxo := hok x (List.mem_of_getElem? hx.out)
        have hsn : Hid (encL (l.take (k + 1)) = encL (l.take k) ++ x.enc) := by
          obtain ⟨hk, rfl⟩ := List.getElem?_eq_some_iff.1 hx.out
          show _ = _
          rw [List.take_succ_eq_append_getElem hk, encL_snoc]
        have hle : Hid (1 + (numN l.length).length + (encL (l.take k)).length ≤ 70368744100000) := by
          have h1 := (numF_len 10 l.length).2
          have h2 := encL_len (l := l.take k) (fun y hy => hok y (List.mem_of_mem_take hy))
          rw [List.length_take] at h2
          have h3 : min k l.length * 1000012 ≤ 1000 * 1000012 := Nat.mul_le_mul_right _ (by omega)
          show _ ≤ _
          unfold numN; omega
        have hwr : WrB wr bw := ⟨hw.1.below hb hw.1.lt, hw.2.below hb hw.2.lt⟩
        clear hx
        cases x with
        | int m =>
          have c0 := hc 0 _ rfl
          have c1 := hc 1 _ rfl
          have c2 := hc 2 _ rfl
          have c3 := hc 3 _ rfl
          rw [Nat.add_zero] at c0
          clear hc
          go_upto_region 5 with fail
          have BX := Blk.new wr 140 #[.int .i64 1, .int .i64 m, .string ⟨#[]⟩, .slice none 0 0] _ rfl
          have hown1 := hown.alloc (.cells #[.int .i64 1, .int .i64 m, .string ⟨#[]⟩, .slice none 0 0] 140)
          have hb1 := bAl hb (.cells #[.int .i64 1, .int .i64 m, .string ⟨#[]⟩, .slice none 0 0] 140)
          have hwr1 : WrB (wr.alloc (.cells #[.int .i64 1, .int .i64 m, .string ⟨#[]⟩, .slice none 0 0] 140)) bw := ⟨hwr.1.alloc _, hwr.2.alloc _⟩
          clear c0 c1 c2 c3 hown hb hwr
          generalize wr.alloc (.cells #[.int .i64 1, .int .i64 m, .string ⟨#[]⟩, .slice none 0 0] 140) = w1 at *
          have d0 : w1.cell? ⟨wr.heap.size, 0, none⟩ = some (.int .i64 1) := BX.cell 0
          have d1 : w1.cell? ⟨wr.heap.size, 1, none⟩ = some (.int .i64 m) := BX.cell 1
          have d2 : w1.cell? ⟨wr.heap.size, 2, none⟩ = some (.string ⟨#[]⟩) := BX.cell 2
          have d3 : w1.cell? ⟨wr.heap.size, 3, none⟩ = some (.slice none 0 0) := BX.cell 3
          have e0 : w1.cell? ⟨bw + 1, 0, none⟩ = some (.pointer (some ⟨bw, 0, none⟩)) := hwr1.2.cell 0
          have e1 : w1.cell? ⟨bw, 1, none⟩ = some (.func (.func 110) #[] #[]) := hwr1.1.cell 1
          refine wp_region_tail 9 (by kernel_rfl) (by kernel_rfl) ?_
          simp only [List.take_succ_cons, List.take_zero, List.drop_succ_cons, List.drop_zero]
          repeat (go_big_quiet_step (fail))
          refine wpQuiet_nil ?_
          go_wp2_with fail
          have hbs := hb1.size
          (with_reducible refine (write_int W.heap.size u0 _ _ m w1.drew hown1.drew (by simp <;> omega) hxo (by have := hle.out; omega)).mono ?_)
          rintro e w2 ⟨v2, rfl, hown2, hg2⟩
          have hb2 := (bDr hb1).trans (hg2.below hown1.drew (by simp <;> omega))
          clear d0 d1 d2 d3 e0 e1 hb1 hwr1
          go_wp2_with fail
          go_roundw
          case rel => exact ⟨k + 1, by omega, by go_num, by rw [hsn.out, List.length_append]; simpa [byts, Nat.add_assoc] using hown2, hb2⟩
          case measure => simp [intOf]; omega
        | text s =>
          have c0 := hc 0 _ rfl
          have c1 := hc 1 _ rfl
          have c2 := hc 2 _ rfl
          have c3 := hc 3 _ rfl
          rw [Nat.add_zero] at c0
          clear hc
          go_upto_region 5 with fail
          have BX := Blk.new wr 140 #[.int .i64 2, .int .i64 0, .string s, .slice none 0 0] _ rfl
          have hown1 := hown.alloc (.cells #[.int .i64 2, .int .i64 0, .string s, .slice none 0 0] 140)
          have hb1 := bAl hb (.cells #[.int .i64 2, .int .i64 0, .string s, .slice none 0 0] 140)
          have hwr1 : WrB (wr.alloc (.cells #[.int .i64 2, .int .i64 0, .string s, .slice none 0 0] 140)) bw := ⟨hwr.1.alloc _, hwr.2.alloc _⟩
          clear c0 c1 c2 c3 hown hb hwr
          generalize wr.alloc (.cells #[.int .i64 2, .int .i64 0, .string s, .slice none 0 0] 140) = w1 at *
          have d0 : w1.cell? ⟨wr.heap.size, 0, none⟩ = some (.int .i64 2) := BX.cell 0
          have d1 : w1.cell? ⟨wr.heap.size, 1, none⟩ = some (.int .i64 0) := BX.cell 1
          have d2 : w1.cell? ⟨wr.heap.size, 2, none⟩ = some (.string s) := BX.cell 2
          have d3 : w1.cell? ⟨wr.heap.size, 3, none⟩ = some (.slice none 0 0) := BX.cell 3
          have e0 : w1.cell? ⟨bw + 1, 0, none⟩ = some (.pointer (some ⟨bw, 0, none⟩)) := hwr1.2.cell 0
          have e1 : w1.cell? ⟨bw, 2, none⟩ = some (.func (.func 113) #[] #[]) := hwr1.1.cell 2
          refine wp_region_tail 9 (by kernel_rfl) (by kernel_rfl) ?_
          simp only [List.take_succ_cons, List.take_zero, List.drop_succ_cons, List.drop_zero]
          repeat (go_big_quiet_step (fail))
          refine wpQuiet_nil ?_
          go_wp2_with fail
          have hbs := hb1.size
          (with_reducible refine (write_text W.heap.size u0 _ _ s w1.drew hown1.drew (by simp <;> omega) hxo (by have := hle.out; omega)).mono ?_)
          rintro e w2 ⟨v2, rfl, hown2, hg2⟩
          have hb2 := (bDr hb1).trans (hg2.below hown1.drew (by simp <;> omega))
          clear d0 d1 d2 d3 e0 e1 hb1 hwr1
          go_wp2_with fail
          go_roundw
          case rel => exact ⟨k + 1, by omega, by go_num, by rw [hsn.out, List.length_append]; simpa [byts, Nat.add_assoc] using hown2, hb2⟩
          case measure => simp [intOf]; omega
      · have hkn : Hid (encL (l.take k) = encL l) := by show _ = _; rw [List.take_of_length_le (by omega)]
        rw [hkn.out] at hown
        go_wp2_with fail
        go_ret
        refine ⟨_, rfl, ?_, hb⟩
        have e : (encN l).length = 1 + (numN l.length).length + (encL l).length := by unfold encN; simp; omega
        rw [e]
        exact hown

set_option maxRecDepth 100000 in
set_option maxHeartbeats 2000000 in
/-- The encoding of a list of numbers and texts. -/
theorem encode_list (A : Option Addr) (n c : Nat) (l : List It) (W : World) (hA : Rd W W.heap.size 4 A n (l.flatMap It.cells)) (hok : ∀ x ∈ l, x.ok) (hn : n ≤ 1000) :
    Calls Tryz.prog 89 #[listV A n c] W (fun r w' => ∃ v, r = .returned (.tuple #[v, .int .i64 0]) ∧ Below W.heap.size W w' ∧ Sl w' w'.heap.size 1 v (encN l).length (byts (encN l))) := by
  have BX := Blk.new W 140 #[.int .i64 3, .int .i64 0, .string ⟨#[]⟩, .slice A n c] _ rfl
  have hb1 := bAl (bRefl W) (.cells #[.int .i64 3, .int .i64 0, .string ⟨#[]⟩, .slice A n c] 140)
  have q := check_list A n c l _ ((hA.alloc (Nat.le_refl _) (.cells #[.int .i64 3, .int .i64 0, .string ⟨#[]⟩, .slice A n c] 140)).more (by simp)) (by omega)
  unfold listV at q ⊢
  go_enter Tryz.func89, Tryz.ntmps89
  go_wp2_with fail
  with_reducible refine q.mono ?_
  rintro e w2 ⟨rfl, b2⟩
  have hb2 := bCall hb1 b2
  have BX2 := BX.below b2 BX.lt
  clear q hb1 b2 BX
  go_wp2_with fail
  have d0 : w2.cell? ⟨W.heap.size, 0, none⟩ = some (.int .i64 3) := BX2.cell 0
  have d1 : w2.cell? ⟨W.heap.size, 1, none⟩ = some (.int .i64 0) := BX2.cell 1
  have d2 : w2.cell? ⟨W.heap.size, 2, none⟩ = some (.string ⟨#[]⟩) := BX2.cell 2
  have d3 : w2.cell? ⟨W.heap.size, 3, none⟩ = some (.slice A n c) := BX2.cell 3
  have hlt := BX2.lt
  go_cut [2, 3] (fun s2 s3 wc => ∃ v, s2 = v ∧ s3 = .int .i64 0 ∧ Below W.heap.size W wc ∧ Sl wc wc.heap.size 1 v (encN l).length (byts (encN l)))
  case first =>
    go_region_with (first
      | (go_at_call 99; refine (writer_any _).mono ?_; rintro e w3 ⟨rfl, b3, hw3⟩; have BX3 := BX2.below ((bDr (bRefl w2)).trans b3) hlt; obtain ⟨f0, f1, f2, f3⟩ := box_cells BX3; have hw4 : WrB w3 w2.heap.size := hw3; have g3 := hw4.list; have hb3 := (bDr hb2).trans (b3.mono hb2.size); clear b3)
      | (go_at_call 114; refine (write_list A n c _ l _ ((hA.below hb3).more hb3.size) hw4 hok hn).mono ?_; rintro e w4 ⟨v, rfl, hown4, b4⟩; have hb4 := bCall hb3 b4))
    all_goals
      go_wp2_with fail
      go_meet
      exact ⟨_, rfl, rfl, hb4, Sl.of_own hown4⟩
  case rest =>
    obtain ⟨v, rfl, rfl, hb, hv⟩ := hcut
    go_wp2_with fail
    go_ret2
    exact ⟨_, rfl, hb, hv⟩

end Go.Proofs.YthgppaiiapkdjaaGreatDoor
