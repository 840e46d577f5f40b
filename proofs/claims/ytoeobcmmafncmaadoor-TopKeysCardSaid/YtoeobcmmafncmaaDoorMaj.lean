/-
  The codec: formed and Check, walked.
-/
import Derived.Test.YtoeobcmmafncmaaDoorMai
import Derived.Test.YtoeobcmmafncmaaDoorMah
import Derived.Deep.RegionLawGrows
import Derived.Deep.AppendLies
import Derived.Deep.RegionHeld3
import Derived.Lib.AppendStr
namespace Go.Proofs.YtoeobcmmafncmaaDoor
open Go.RowKit

/-- A list as a value. -/
def listV (A : Option Addr) (n c : Nat) : Value := .agg #[.int .i64 3, .int .i64 0, .string ⟨#[]⟩, .slice A n c]

set_option maxRecDepth 100000 in
set_option maxHeartbeats 2000000 in
theorem formed_leaf (x : It) (w : World) : Calls Tryd.prog 91 #[x.agg] w (Ret (.tuple #[.int .i64 0, .bool true]) w) := by
  cases x with
  | int n =>
    show Calls _ _ #[.agg #[.int .i64 1, .int .i64 n, .string ⟨#[]⟩, .slice none 0 0]] w _
    go_enter Tryd.func91, Tryd.ntmps91
    go_wp2_with fail
    all_goals
      go_ret2
      exact ⟨rfl, bAl (bAl (bRefl _) _) _⟩
  | text s =>
    show Calls _ _ #[.agg #[.int .i64 2, .int .i64 0, .string s, .slice none 0 0]] w _
    go_enter Tryd.func91, Tryd.ntmps91
    go_wp2_with fail
    all_goals
      go_ret2
      exact ⟨rfl, bAl (bAl (bRefl _) _) _⟩

set_option maxRecDepth 100000 in
set_option maxHeartbeats 2000000 in
theorem formed_list (A : Option Addr) (n c : Nat) (l : List It) (W : World) (hA : Rd W W.heap.size 4 A n (l.flatMap It.cells)) (hn : n ≤ 1000000) :
    Calls Tryd.prog 91 #[listV A n c] W (Ret (.tuple #[.int .i64 1, .bool true]) W) := by
  have hl : Hid (l.length = n) := by have := hA.1; rw [flat_len It.cells_length] at this; show _ = _; omega
  unfold listV
  go_enter Tryd.func91, Tryd.ntmps91
  go_wp2_with fail
  go_loopw [2, 57] (fun d i wr => ∃ k : Nat, k ≤ n ∧ i = .int .i64 k ∧ d = .int .i64 0 ∧ Below W.heap.size W wr) (fun _ i _ => n - (intOf i).toNat)
  case atStart => exact ⟨0, Nat.zero_le _, rfl, rfl, bAl (bAl (bRefl W) _) _⟩
  case round =>
    obtain ⟨k, hk, rfl, rfl, hb⟩ := hrel
    by_cases hlt : k < n
    · obtain ⟨x, hx⟩ : ∃ x, Hid (l[k]? = some x) := ⟨_, Lib.hid (List.getElem?_eq_getElem (by rw [hl.out]; exact hlt))⟩
      obtain ⟨b, off, rfl, hbb, hc⟩ := It_at (hA.below hb) hlt hx.out
      clear hx
      cases x with
      | int m =>
        have c0 := hc 0 _ rfl
        have c1 := hc 1 _ rfl
        have c2 := hc 2 _ rfl
        have c3 := hc 3 _ rfl
        rw [Nat.add_zero] at c0
        clear hc
        go_wp2_with fail
        have q : ∀ w', Calls Tryd.prog 91 #[.agg #[.int .i64 1, .int .i64 m, .string ⟨#[]⟩, .slice none 0 0]] w' (Ret (.tuple #[.int .i64 0, .bool true]) w') := fun w' => formed_leaf (.int m) w'
        with_reducible refine (q _).mono ?_
        rintro e w2 ⟨rfl, b2⟩
        have hb2 := bCall (bAl hb _) b2
        clear hb b2 q
        go_wp2_with fail
        go_roundw
        case rel => exact ⟨k + 1, by omega, by go_num, rfl, hb2⟩
        case measure => simp [intOf]; omega
      | text s =>
        have c0 := hc 0 _ rfl
        have c1 := hc 1 _ rfl
        have c2 := hc 2 _ rfl
        have c3 := hc 3 _ rfl
        rw [Nat.add_zero] at c0
        clear hc
        go_wp2_with fail
        have q : ∀ w', Calls Tryd.prog 91 #[.agg #[.int .i64 2, .int .i64 0, .string s, .slice none 0 0]] w' (Ret (.tuple #[.int .i64 0, .bool true]) w') := fun w' => formed_leaf (.text s) w'
        with_reducible refine (q _).mono ?_
        rintro e w2 ⟨rfl, b2⟩
        have hb2 := bCall (bAl hb _) b2
        clear hb b2 q
        go_wp2_with fail
        go_roundw
        case rel => exact ⟨k + 1, by omega, by go_num, rfl, hb2⟩
        case measure => simp [intOf]; omega
    · go_wp2_with fail
      go_ret2
      exact ⟨rfl, hb⟩

set_option maxHeartbeats 2000000 in
theorem check_list (A : Option Addr) (n c : Nat) (l : List It) (W : World) (hA : Rd W W.heap.size 4 A n (l.flatMap It.cells)) (hn : n ≤ 1000000) :
    Calls Tryd.prog 84 #[listV A n c] W (Ret (.int .i64 0) W) := by
  have hA2 := hA.alloc (Nat.le_refl _) (.cells #[.int .i64 3, .int .i64 0, .string ⟨#[]⟩, .slice A n c] 148)
  have q := formed_list A n c l _ (hA2.more (by simp)) hn
  have hb := bAl (bRefl W) (.cells #[.int .i64 3, .int .i64 0, .string ⟨#[]⟩, .slice A n c] 148)
  unfold listV at q ⊢
  go_enter Tryd.func84, Tryd.ntmps84
  go_wp2_with fail
  with_reducible refine q.mono ?_
  rintro e w2 ⟨rfl, b2⟩
  have hb2 := bCall hb b2
  clear q hb b2
  go_wp2_with fail
  go_ret
  exact ⟨rfl, hb2⟩

end Go.Proofs.YtoeobcmmafncmaaDoor

/-
  append as one step of a region that draws its order.
-/
namespace Go.Proofs.YtoeobcmmafncmaaDoor
open Go.RowKit

/-- append of what lies in a block that is known whole. -/
theorem step_appendB {P : Program} {ops : Array Oper} {o : Oper} {a : Act} {w : World} {K : Act → World → Prop} {Q : Exit → Act → World → Prop} {E : Prop}
    (hgd : o.guard = none) (s x : Operand) (t : TypeId) (ho : o.op = .call { callee := .builtin .append, args := #[s, x], argTypes := #[t, t] })
    (base : Nat) (e : TypeId) (z : Value) (size bytes : Nat) (ht : P.underlying t = some (.slice e)) (hinfo : (P.info? e).map (fun i => (i.zero, i.size, i.bytes)) = some (some z, size, bytes)) (hzs : z.cells.size = size) (hsz : 0 < size)
    (v : Value) (n : Nat) (xs : List Value) (hs : a.eval s = v) (hown : w.ownsRow base e size v n xs) (g : Nat) (te : TypeId) (m c : Nat) (news : List Value) (hx : a.eval x = .slice (some ⟨g, 0, none⟩) m c) (hB : Blk w g te news.toArray) (hl : news.length = m * size) (hm : 0 < m)
    (h1 : ∀ u ∈ news, u.oneCell' = true) (h63 : n + m ≤ maxLen) (hbytes : (n + m) * bytes ≤ 140737488355328) (hbase : base ≤ w.heap.size)
    (hK : ∀ v' w', w'.ownsRow base e size v' (n + m) (xs ++ news) → Grew w w' v v' → K (a.put o.dst v') w') :
    if Region.wanted o (yielded ops a.tmps) = true then Oper.wp P o a w K Q else E := by
  obtain ⟨i0, hi, hz0, hz1, hz2⟩ := info_parts hinfo
  refine step_append_lies w hgd s x t ho base e i0 z size bytes ht hi hz0 hz1 hz2 hzs hsz v n xs hs hown ⟨g, 0, none⟩ m c news hx hl ?_ h1 hm h63 hbytes hbase _ rfl ?_
  · intro j u hu
    rw [addr_plus, Nat.zero_add, hB.cell j]
    simpa using hu
  · intro g' cap w' hown' hgrow hat _
    refine hK _ w' hown' ⟨hgrow, ?_⟩
    rcases hat with h | h
    · exact .inl h.symm
    · exact .inr ⟨g', rfl, by omega⟩

/-- append of a string's bytes: where the new row lies, too. -/
theorem run_append_strG {P : Program} (w : World) (base : Nat) (t u ty e : TypeId) (i : TypeInfo) (ht : P.underlying t = some (.slice e)) (hu : P.underlying u = some .string) (hi : P.info? e = some i) (hz : i.zero = some (.int .u8 0))
    (hsize : i.size = 1) (hby : i.bytes = 1) (v : Value) (n : Nat) (xs : List Value) (hown : w.ownsRow base e 1 v n xs) (s : ByteArray) (h63 : n + s.size ≤ maxLen) (hbytes : n + s.size ≤ 140737488355328) (hbase : base ≤ w.heap.size) :
    ∃ v' w', (Builtin.append_ #[t, u] ty #[v, .string s]).run P w = .ok v' w' ∧ w'.ownsRow base e 1 v' (n + s.size) (xs ++ Lib.strCells s) ∧ Grew w w' v v' := by
  obtain ⟨v', w', hr, h2, h3, h4⟩ := Lib.run_append_own_string w base t u ty e i ht hu hi hz hsize hby v n xs hown s h63 hbytes hbase
  refine ⟨v', w', hr, h2, h3, ?_⟩
  have hsm : n + s.size ≤ 9223372036854775807 := by simp only [maxLen] at h63; omega
  have hxl : xs.length = n := by simpa using hown.1
  rcases hown.2 with ⟨hv, hn⟩ | ⟨g, cap, cur, hv, hbg, hg, hnc, hcm, hcs, htake⟩
  · subst hv; subst hn
    by_cases hm : s.size = 0
    · have := h4.2 ⟨rfl, hm⟩
      rw [this]; exact .inl rfl
    · have hr2 := run_append_nil_string (P := P) w t u ty e i (.int .u8 0) ht hu hi hz s (by omega) (by omega) (by rw [hby]; omega)
      rw [hr] at hr2
      injection hr2 with e1 e2
      rw [e1]
      exact .inr ⟨_, rfl, Nat.le_refl _⟩
  · subst hv
    by_cases hroom : n + s.size ≤ cap
    · have hr2 := Lib.run_append_room_string (P := P) w t u ty e i ht hu hi hsize g n cap cur hg s hroom (by omega)
      rw [hr] at hr2
      injection hr2 with e1 e2
      rw [e1]
      exact .inl rfl
    · have holds : ∀ j u, xs[j]? = some u → w.cell? ((⟨g, 0, none⟩ : Addr).add j) = some u := hown.cells (g := g) rfl
      have hr2 := Lib.run_append_grow_string (P := P) w t u ty e i (.int .u8 0) ht hu hi hz ⟨g, 0, none⟩ n cap xs (by rw [hsize]; simpa using hxl) holds s (by omega) (by omega) (by rw [hby]; exact growslice_fits (by omega) (by omega))
      rw [hr] at hr2
      injection hr2 with e1 e2
      rw [e1]
      exact .inr ⟨_, rfl, Nat.le_refl _⟩
theorem step_append_str {P : Program} {ops : Array Oper} {o : Oper} {a : Act} {w : World} {K : Act → World → Prop} {Q : Exit → Act → World → Prop} {E : Prop}
    (hgd : o.guard = none) (sl x : Operand) (t u : TypeId) (ho : o.op = .call { callee := .builtin .append, args := #[sl, x], argTypes := #[t, u] })
    (base : Nat) (e : TypeId) (ht : P.underlying t = some (.slice e)) (hu : P.underlying u = some .string) (hinfo : (P.info? e).map (fun i => (i.zero, i.size, i.bytes)) = some (some (.int .u8 0), 1, 1))
    (v : Value) (n : Nat) (xs : List Value) (hs : a.eval sl = v) (hown : w.ownsRow base e 1 v n xs) (s : ByteArray) (hx : a.eval x = .string s)
    (h63 : n + s.size ≤ maxLen) (hbytes : n + s.size ≤ 140737488355328) (hbase : base ≤ w.heap.size)
    (hK : ∀ v' w', w'.ownsRow base e 1 v' (n + s.size) (xs ++ Lib.strCells s) → Grew w w' v v' → K (a.put o.dst v') w') :
    if Region.wanted o (yielded ops a.tmps) = true then Oper.wp P o a w K Q else E := by
  obtain ⟨i0, hi, hz0, hz1, hz2⟩ := info_parts hinfo
  have hw : Region.wanted o (yielded ops a.tmps) = true := by simp [Region.wanted, hgd]
  rw [if_pos hw]
  obtain ⟨v', w', hr, h2, h3⟩ := run_append_strG (P := P) w base t u o.type e i0 ht hu hi hz0 hz1 hz2 v n xs hown s h63 hbytes hbase
  unfold Oper.wp execOp
  simp only [ho, resolve, invoke, builtin, Sem.run_bind, Sem.run_pure, Result.andThen_ok, List.map_toArray, List.map_cons, List.map_nil, hs, hx, hr]
  exact hK _ _ h2 h3
theorem own_base {w : World} {base b0 : Nat} {e : TypeId} {sz n : Nat} {v : Value} {xs : List Value} (h : w.ownsRow base e sz v n xs) (hb : b0 ≤ base) : w.ownsRow b0 e sz v n xs := by
  obtain ⟨h1, h2⟩ := h
  refine ⟨h1, ?_⟩
  rcases h2 with h2 | ⟨g, cap, cur, r0, r1, r2⟩
  · exact .inl h2
  · exact .inr ⟨g, cap, cur, r0, Nat.le_trans hb r1, r2⟩
end Go.Proofs.YtoeobcmmafncmaaDoor
