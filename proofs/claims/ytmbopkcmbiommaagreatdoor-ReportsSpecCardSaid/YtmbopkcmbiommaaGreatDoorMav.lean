/-
  reports.numbers; walked.
-/
import Derived.Test.YtmbopkcmbiommaaGreatDoorMas
import Derived.Test.YtmbopkcmbiommaaGreatDoorMau
import Derived.Maps.AppendAt
import Derived.Deep.AppendLies
import Derived.RangeFuncOwn
namespace Go.Proofs.YtmbopkcmbiommaaGreatDoor
open Go Go.RowKit

def bys (l : List ByteArray) : List By := l.map (fun s => s.data.toList)
theorem numsO_snoc {s : By} {n : Int} : ∀ {a : List By} {ns : List Int}, numsO a = some ns → numO s = some n → numsO (a ++ [s]) = some (ns ++ [n])
  | [], ns, h, hn => by
    have : ns = [] := by simpa [numsO] using h.symm
    subst this
    simp [numsO, hn]
  | x :: a, ns, h, hn => by
    unfold numsO at h
    rw [List.cons_append]
    unfold numsO
    cases hx : numO x with
    | none => rw [hx] at h; cases h
    | some m =>
      cases ha : numsO a with
      | none => rw [hx, ha] at h; cases h
      | some l =>
        rw [hx, ha] at h
        injection h with h
        subst h
        rw [numsO_snoc ha hn]
        rfl
theorem numsO_no {s : By} (hs : numO s = none) : ∀ {a : List By}, s ∈ a → numsO a = none
  | x :: a, h => by
    unfold numsO
    rcases List.mem_cons.1 h with rfl | h
    · rw [hs]
    · rw [numsO_no hs h]
      cases numO x <;> rfl
/-- What numbers answers. -/
def numsV (l : List By) (many : Int) : Option (List Int) := if 0 ≤ many ∧ many ≠ (l.length : Int) then none else numsO l
def NumsPost (o : Option (List Int)) (w : World) (r : Ending) (w' : World) : Prop :=
  (match o with | some ns => ∃ v, r = .returned v ∧ w'.ownsRow w.heap.size 3 1 v ns.length (ints ns) | none => r = PanW) ∧ Below w.heap.size w w'
theorem NumsPost.no {o : Option (List Int)} {w w' : World} (h : o = none) (b : Below w.heap.size w w') : NumsPost o w PanW w' := by rw [h]; exact ⟨rfl, b⟩
theorem NumsPost.yes {o : Option (List Int)} {ns : List Int} {w w' : World} {v : Value} (h : o = some ns) (hv : w'.ownsRow w.heap.size 3 1 v ns.length (ints ns)) (b : Below w.heap.size w w') : NumsPost o w (.returned v) w' := by rw [h]; exact ⟨⟨v, rfl, hv⟩, b⟩
theorem int_info : (Tryz.prog.info? 3).map (fun i => (i.zero, i.size, i.bytes)) = some (some (.int .i64 0), 1, 8) := by kernel_rfl
theorem rep_numbers (B : Nat) (A : Option Addr) (c : Nat) (l : List ByteArray) (many : Int) (W : World) (hA : Rd W W.heap.size 1 A l.length (strs l)) (hl : ∀ s ∈ l, s.size ≤ 1000000) (hn : l.length ≤ 1000000) (hG : LibG B W) (hB : B ≤ W.heap.size) :
    Calls Tryz.prog 91 #[.slice A l.length c, .int .i64 many] W (NumsPost (numsV (bys l) many) W) := by
  obtain ⟨o, ho⟩ : ∃ o, Hid (numsV (bys l) many = o) := ⟨_, Lib.hid rfl⟩
  rw [ho.out]
  have hlb : (bys l).length = l.length := List.length_map ..
  go_enter Tryz.func91, Tryz.ntmps91
  go_wp2_with (first | (go_at_call 55; (with_reducible refine (want_yes _).mono ?_); rintro e w3 ⟨rfl, rfl⟩) | (go_at_call 55; (with_reducible refine (want_any _ _).mono ?_); rintro e w3 ⟨(⟨hq, rfl⟩ | ⟨hq, h9⟩), rfl⟩; rotate_left 1; (unfold PanW at h9; subst h9); rotate_left 1))
  case inr =>
    refine ⟨rfl, NumsPost.no (ho.out.symm.trans (if_pos ?_)) (bRefl W)⟩
    simp only [Bool.or_eq_false_iff, decide_eq_false_iff_not, beq_eq_false_iff_ne, Int.not_lt] at hq
    exact ⟨hq.1, fun h => hq.2 (by rw [h, hlb])⟩
  all_goals
    have hv : Hid (numsO (bys l) = o) := Lib.hid (by
      refine Eq.trans (if_neg ?_).symm ho.out
      rintro ⟨h1, h2⟩
      rw [hlb] at h2
      first
        | omega
        | (simp only [Bool.or_eq_true, decide_eq_true_eq, beq_iff_eq] at hq; omega))
    clear ho
    try clear hq
    go_loopw [4, 18] (fun v i wr => ∃ (k : Nat) (ns : List Int), k ≤ l.length ∧ i = .int .i64 k ∧ ns.length = k ∧ Below W.heap.size W wr ∧ Hid (numsO ((bys l).take k) = some ns) ∧ wr.ownsRow W.heap.size 3 1 v k (ints ns)) (fun _ i _ => l.length - (intOf i).toNat)
    case atStart => exact ⟨0, [], Nat.zero_le _, rfl, rfl, bRefl W, Lib.hid (by rw [List.take_zero]; rfl), World.ownsRow_nil _ _ _ _⟩
    case round =>
      obtain ⟨k, ns, hk, rfl, hnk, hb, hns, hown⟩ := hrel
      by_cases hlt : k < l.length
      · obtain ⟨x, hx⟩ : ∃ x, Hid (l[k]? = some x) := ⟨_, Lib.hid (List.getElem?_eq_getElem hlt)⟩
        obtain ⟨b, off, rfl, hbb, d0⟩ := Str_at (hA.below hb) hlt hx.out
        have hxm : x ∈ l := List.mem_of_getElem? hx.out
        have hbx : Hid ((bys l)[k]? = some x.data.toList) := Lib.hid (by unfold bys; rw [List.getElem?_map, hx.out]; rfl)
        have q1 := Lib.hid (rep_number B x wr (hl x hxm) (hG.below (hb.mono hB)) (Nat.le_trans hB hb.size))
        have hbs : W.heap.size ≤ wr.heap.size := hb.size
        have i0 : (0 : Int) ≤ (k : Int) := by omega
        have i1 : (k : Int) < (l.length : Int) := by omega
        cases hxn : numO x.data.toList with
        | none =>
          rw [hxn] at q1
          go_wp2_with (go_at_call 132; (with_reducible refine q1.out.mono ?_); rintro e w2 ⟨h9, b2⟩; (simp only at h9; unfold PanW at h9; subst h9))
          exact ⟨rfl, NumsPost.no (hv.out.symm.trans (numsO_no hxn (List.mem_of_getElem? hbx.out))) (bCall hb b2)⟩
        | some n =>
          rw [hxn] at q1
          have h63 : k + 1 ≤ maxLen := by unfold maxLen; omega
          have hby : (k + 1) * 8 ≤ 140737488355328 := by omega
          have hone : ∀ u ∈ [Value.int .i64 n], u.oneCell' = true := by intro u hu; simp at hu; rcases hu with rfl; rfl
          have hns2 : Hid (numsO ((bys l).take (k + 1)) = some (ns ++ [n])) := Lib.hid (by
            obtain ⟨hk2, hx2⟩ := List.getElem?_eq_some_iff.1 hbx.out
            rw [List.take_succ_eq_append_getElem hk2, hx2]
            exact numsO_snoc hns.out hxn)
          go_wp2_with (first | (go_at_call 132; (with_reducible refine q1.out.mono ?_); rintro e w2 ⟨h9, b2⟩; (simp only at h9; subst h9); have hown2 := ownsRow_keep hown b2; have hbs2 := Nat.le_trans hbs b2.size) | (at_builtin; refine wpList_append1G _ [.int .i64 n] (.tmp 22) (.tmp 25) 25 W.heap.size 3 (.int .i64 0) 1 8 _ k (ints ns) rfl rfl Tryz.underlying25 int_info rfl (by omega) rfl hown2 rfl rfl hone h63 hby hbs2 ?_; intro v' w' hown4 hg4))
          have b4 := hg4.below hown2 hbs2
          exact ⟨⟨k + 1, ns ++ [n], by omega, by go_num, by simp [hnk], (bCall hb b2).trans b4, hns2, by unfold ints at hown4 ⊢; rw [List.map_append]; exact hown4⟩, by simp [intOf]; omega⟩
      · obtain rfl : k = l.length := by omega
        have hns3 : Hid (o = some ns) := Lib.hid (by have := hns.out; rw [List.take_of_length_le (by omega)] at this; rw [← hv.out, this])
        clear hns
        go_wp2_with fail
        go_ret
        exact NumsPost.yes hns3.out (by rw [hnk]; exact hown) hb
end Go.Proofs.YtmbopkcmbiommaaGreatDoor

/-
  Rows with owners: what a reading holds in memory, and how it grows.
-/
namespace Go.Proofs.YtmbopkcmbiommaaGreatDoor
open Go Go.RowKit

/-- append as a step of a region that draws. -/
theorem step_appendG {P : Program} {ops : Array Oper} {o : Oper} {a : Act} {w : World} {K : Act → World → Prop} {Q : Exit → Act → World → Prop} {E : Prop} (s x : Operand) (t : TypeId)
    (base : Nat) (e : TypeId) (z : Value) (size bytes : Nat) (v : Value) (n : Nat) (xs : List Value) (A : Option Addr) (m c B : Nat) (news : List Value) (hgd : o.guard = none)
    (ho : o.op = .call { callee := .builtin .append, args := #[s, x], argTypes := #[t, t] })
    (ht : P.underlying t = some (.slice e)) (hinfo : (P.info? e).map (fun i => (i.zero, i.size, i.bytes)) = some (some z, size, bytes)) (hzs : z.cells.size = size) (hsz : 0 < size)
    (hs : a.eval s = v) (hown : w.ownsRow base e size v n xs) (hx : a.eval x = .slice A m c) (hr : Rd w B size A m news) (hnil : A = none → m = 0 ∧ c = 0) (h1 : ∀ u ∈ news, u.oneCell' = true)
    (h63 : n + m ≤ maxLen) (hbytes : (n + m) * bytes ≤ 140737488355328) (hbase : base ≤ w.heap.size)
    (h : ∀ v' w', w'.ownsRow base e size v' (n + m) (xs ++ news) → Grew w w' v v' → K (a.put o.dst v') w') :
    if Region.wanted o (yielded ops a.tmps) = true then Oper.wp P o a w K Q else E := by
  obtain ⟨i0, hi, hz0, hz1, hz2⟩ := info_parts hinfo
  rw [if_pos (by simp [Region.wanted, hgd])]
  cases A with
  | none =>
    obtain ⟨rfl, rfl⟩ := hnil rfl
    have hn0 : news = [] := List.eq_nil_of_length_eq_zero (by rw [hr.1]; simp)
    subst hn0
    have hrun := run_append_owned_none (P := P) (w := w) base t o.type e i0 size ht hi v n xs hown
    unfold Oper.wp execOp
    simp only [ho, resolve, invoke, builtin, Sem.run_bind, Sem.run_pure, Result.andThen_ok, List.map_toArray, List.map_cons, List.map_nil, hs, hx, hrun]
    exact h v w (by simpa using hown) (Grew.refl _ _)
  | some ad =>
    obtain ⟨v', w', hrun, h2, h3, h4, h5⟩ := run_append_own_at (P := P) w base t o.type e i0 z size bytes ht hi hz0 hz1 hz2 hzs hsz v n xs hown ad m c news hr.1 (by
      intro j u hj
      rcases Nat.eq_zero_or_pos m with h0 | h0
      · subst h0
        have hn0 : news = [] := List.eq_nil_of_length_eq_zero (by rw [hr.1]; simp)
        subst hn0
        simp at hj
      · obtain ⟨b, off, he, _, hc⟩ := hr.2 h0
        injection he with he
        subst he
        rw [addr_plus]
        exact hc j u hj) h1 h63 hbytes hbase
    unfold Oper.wp execOp
    simp only [ho, resolve, invoke, builtin, Sem.run_bind, Sem.run_pure, Result.andThen_ok, List.map_toArray, List.map_cons, List.map_nil, hs, hx, hrun]
    exact h v' w' h2 ⟨h3, h5.imp id fun e => ⟨_, e, Nat.le_refl _⟩⟩

theorem ownsRow_succ {w : World} {base n sz : Nat} {e : TypeId} {v : Value} {xs : List Value} (h : w.ownsRow base e sz v (n + 1) xs) : ∃ g cap, v = .slice (some ⟨g, 0, none⟩) (n + 1) cap := by
  rcases h.2 with ⟨_, h0⟩ | ⟨g, cap, cur, hv, _⟩
  · omega
  · exact ⟨g, cap, hv⟩
/-- A row: the type and the number of cells of an element, the slice, how many, and the cells. -/
structure Rwn where
  e : TypeId
  sz : Nat
  v : Value
  n : Nat
  xs : List Value
/-- A row that the call owns; the block bears the tag t. -/
structure Own (w : World) (base : Nat) (o : Nat → Nat) (t : Nat) (r : Rwn) : Prop where
  own : w.ownsRow base r.e r.sz r.v r.n r.xs
  tag : ∀ g, r.v.ownBlock = some g → o g = t
/-- Blocks stay but for those of the tag t. -/
def KeepT (o : Nat → Nat) (t : Nat) (w w' : World) : Prop := w.heap.size ≤ w'.heap.size ∧ (∀ g, g < w.heap.size → o g ≠ t → w'.heap[g]? = w.heap[g]?) ∧ KeepsOthers w w'
/-- What is no cells stays. -/
theorem others_below {A B : World} (b : Below A.heap.size A B) : KeepsOthers A B := ⟨b.size, fun k _ h _ => (b.block k (Array.getElem?_eq_some_iff.1 h).1).trans h⟩
/-- New blocks get a tag. -/
def updT (o : Nat → Nat) (n t : Nat) : Nat → Nat := fun g => if n ≤ g then t else o g
def Agree (n : Nat) (o o' : Nat → Nat) : Prop := ∀ g, g < n → o' g = o g
theorem upd_agree (o : Nat → Nat) (n t : Nat) : Agree n o (updT o n t) := fun g hg => if_neg (by omega)
section
variable {w w' w2 : World} {base t t' R : Nat} {o o' : Nat → Nat} {r : Rwn}
theorem KeepT.of_below (b : Below w.heap.size w w') (o : Nat → Nat) (t : Nat) : KeepT o t w w' := ⟨b.size, fun g hg _ => b.block g hg, others_below b⟩
theorem KeepT.of_grew {v' : Value} (h : Own w base o t r) (hg : Grew w w' r.v v') : KeepT o t w w' :=
  ⟨hg.size, fun g hl ht => hg.other hl (fun e => ht (h.tag g e.symm)), ⟨hg.size, fun k ob hk ho => (hg.other (Array.getElem?_eq_some_iff.1 hk).1 (fun e => by
    rcases h.own.2 with ⟨h2, _⟩ | ⟨g, cap, cur, hv, _, hh, _⟩
    · rw [h2] at e; cases e
    · rw [hv] at e
      injection e with e
      have e2 : k = g := e
      rw [e2, hh] at hk
      injection hk with hk
      subst hk
      simp [Obj.isCells] at ho)).trans hk⟩⟩
theorem KeepT.of_set (hR : o R = t) (i : Nat) (u : Value) : KeepT o t w (w.setCell ⟨R, i, none⟩ u) :=
  ⟨by simp [World.setCell], fun g _ ht => Below.heap_setCell _ _ _ _ (fun e => ht (by have e2 : g = R := e; rw [e2, hR])), KeepsOthers.setCell _ _ _⟩
theorem KeepT.blk {g : Nat} {T : TypeId} {cs : Array Value} (k : KeepT o t w w') (h : Blk w g T cs) (ht : o g ≠ t) : Blk w' g T cs := (k.2.1 g h.lt ht).trans h
theorem Own.keep (h : Own w base o t r) (k : KeepT o t' w w') (ht : t ≠ t') (ha : Agree w.heap.size o o') : Own w' base o' t r := by
  have hl := h.own.lt
  refine ⟨⟨h.own.1, ?_⟩, fun g hg => by rw [ha g (hl g hg).2]; exact h.tag g hg⟩
  rcases h.own.2 with h2 | ⟨g, cap, cur, hv, hb, hh, q⟩
  · exact .inl h2
  · have e : r.v.ownBlock = some g := by rw [hv]; rfl
    exact .inr ⟨g, cap, cur, hv, hb, (k.2.1 g (hl g e).2 (by rw [h.tag g e]; exact ht)).trans hh, q⟩
theorem Own.grew {v' : Value} {n' : Nat} {xs' : List Value} (h : Own w base o t r) (hg : Grew w w' r.v v') (hown : w'.ownsRow base r.e r.sz v' n' xs') : Own w' base (updT o w.heap.size t) t ⟨r.e, r.sz, v', n', xs'⟩ := by
  refine ⟨hown, fun g e => ?_⟩
  unfold updT
  split
  · rfl
  · rename_i hlt
    rcases hg.2 with e2 | ⟨g2, e2, h2⟩
    · exact h.tag g (e2.symm.trans e)
    · have e3 : some g2 = some g := e2.symm.trans e
      injection e3 with e3
      omega
/-- A slice of numbers that nobody writes into. -/
structure RdO (w : World) (o : Nat → Nat) (A : Option Addr) (n : Nat) (xs : List Value) : Prop where
  rd : Rd w w.heap.size 1 A n xs
  tag : ∀ p : Addr, A = some p → 0 < n → o p.block = 0
theorem RdO.keep {A : Option Addr} {n : Nat} {xs : List Value} (h : RdO w o A n xs) (k : KeepT o t w w') (ht : t ≠ 0) (ha : Agree w.heap.size o o') : RdO w' o' A n xs := by
  refine ⟨⟨h.rd.1, fun h0 => ?_⟩, fun p e h0 => ?_⟩
  · obtain ⟨b, off, e, hb, hc⟩ := h.rd.2 h0
    refine ⟨b, off, e, Nat.lt_of_lt_of_le hb k.1, fun j u hu => ?_⟩
    have hk := k.2.1 b hb (by have := h.tag _ e h0; simp only at this; omega)
    rw [← hc j u hu]
    unfold World.cell?
    simp only [hk]
  · obtain ⟨b, off, e2, hb, -⟩ := h.rd.2 h0
    have e3 := e.symm.trans e2
    injection e3 with e3
    subst e3
    rw [ha _ hb]
    exact h.tag _ e h0
end
/-- The slices of a reading. -/
structure RS where
  ws : WS
  ls : List LS
  vs : List Value
/-- The row of a tag. -/
def rowQ (q : RS) (x : Wld) (t : Nat) : Option Rwn :=
  if t = 1 then some ⟨3, 1, .slice q.ws.ab x.base.length q.ws.cb, x.base.length, ints x.base⟩
  else if t = 2 then some ⟨3, 1, .slice q.ws.ag x.leg.length q.ws.cg, x.leg.length, ints x.leg⟩
  else if t = 3 then some ⟨63, 2, .slice q.ws.at_ x.tiers.length q.ws.ct, x.tiers.length, x.tiers.flatMap Tie.cl⟩
  else if t = 4 then some ⟨56, 6, .slice q.ws.al x.lines.length q.ws.cl_, x.lines.length, linsCl q.ls x.lines⟩
  else if t = 5 then some ⟨65, 11, .slice q.ws.ao x.orders.length q.ws.co, x.orders.length, odrsCl x.orders q.vs⟩
  else if t = 6 then some ⟨67, 8, .slice q.ws.ae x.ents.length q.ws.ce, x.ents.length, x.ents.flatMap Ent.cl⟩
  else if t = 7 then some ⟨3, 1, .slice q.ws.as_ x.secs.length q.ws.cs, x.secs.length, ints x.secs⟩
  else if t = 8 then some ⟨71, 4, .slice q.ws.af x.faults.length q.ws.cf, x.faults.length, x.faults.flatMap Slp.cl⟩
  else if t < 10 then none
  else match q.ls[(t - 10) / 2]?, x.lines[(t - 10) / 2]? with
    | some s, some y => if t % 2 = 0 then some ⟨59, 3, .slice s.a2 y.rules.length s.c2, y.rules.length, y.rules.flatMap Rl.cl⟩ else some ⟨61, 2, .slice s.a3 y.off.length s.c3, y.off.length, y.off.flatMap Gp.cl⟩
    | _, _ => none
/-- The rows of a world that is being read. -/
structure RowsAt (w : World) (base m : Nat) (o : Nat → Nat) (q : RS) (x : Wld) : Prop where
  lq : q.ls.length = x.lines.length
  vq : q.vs.length = x.orders.length
  rows : ∀ t r, rowQ q x t = some r → Own w base o t r ∧ r.n ≤ m
  rl : ∀ (k : Nat) (s : LS) (y : Lin), q.ls[k]? = some s → x.lines[k]? = some y → RdO w o s.a0 y.offs.length (ints y.offs) ∧ RdO w o s.a1 y.legs.length (ints y.legs)
  rv : ∀ (k : Nat) (u : Value) (y : Odr), q.vs[k]? = some u → x.orders[k]? = some y → ∃ A c, u = .slice A y.ag.length c ∧ RdO w o A y.ag.length (ints y.ag)
section
variable {w w' w1 : World} {base m m' t R : Nat} {o o' : Nat → Nat} {q q' : RS} {x x' : Wld} {r : Rwn}
/-- The rows stay where blocks of a tag change that no row bears. -/
theorem RowsAt.keep (h : RowsAt w base m o q x) (k : KeepT o t w w') (ht : t = 9) (ha : Agree w.heap.size o o') (hm : m ≤ m') : RowsAt w' base m' o' q x := by
  refine ⟨h.lq, h.vq, fun t' r hr => ⟨(h.rows t' r hr).1.keep k (fun e => ?_) ha, Nat.le_trans (h.rows t' r hr).2 hm⟩, fun k' s y hs hy => ⟨(h.rl k' s y hs hy).1.keep k (by omega) ha, (h.rl k' s y hs hy).2.keep k (by omega) ha⟩, fun k' u y hu hy => ?_⟩
  · rw [ht] at e
    subst e
    unfold rowQ at hr
    simp at hr
  · obtain ⟨A, c, e, hr⟩ := h.rv k' u y hu hy
    exact ⟨A, c, e, hr.keep k (by omega) ha⟩
/-- Another world, whose rows are the same. -/
theorem RowsAt.same (h : RowsAt w base m o q x) (e : rowQ q' x' = rowQ q x) (e1 : q'.ls = q.ls) (e2 : q'.vs = q.vs) (e3 : x'.lines = x.lines) (e4 : x'.orders = x.orders) : RowsAt w base m o q' x' :=
  ⟨by rw [e1, e3]; exact h.lq, by rw [e2, e4]; exact h.vq, by rw [e]; exact h.rows, by rw [e1, e3]; exact h.rl, by rw [e2, e4]; exact h.rv⟩
/-- A row has grown. -/
theorem RowsAt.put {v' : Value} {n' : Nat} {xs' : List Value} (h : RowsAt w base m o q x) (hr : rowQ q x t = some r) (ht : t ≠ 0) (hg : Grew w w' r.v v') (hown : w'.ownsRow base r.e r.sz v' n' xs')
    (lq : q'.ls.length = x'.lines.length) (vq : q'.vs.length = x'.orders.length) (hrt : rowQ q' x' t = some ⟨r.e, r.sz, v', n', xs'⟩) (hn : n' ≤ m') (hm : m ≤ m')
    (hrow : ∀ t' r', t' ≠ t → rowQ q' x' t' = some r' → rowQ q x t' = some r' ∨ (r'.n = 0 ∧ r'.v = .slice none 0 0 ∧ r'.xs = []))
    (hrl : ∀ (k : Nat) (s : LS) (y : Lin), q'.ls[k]? = some s → x'.lines[k]? = some y → RdO w o s.a0 y.offs.length (ints y.offs) ∧ RdO w o s.a1 y.legs.length (ints y.legs))
    (hrv : ∀ (k : Nat) (u : Value) (y : Odr), q'.vs[k]? = some u → x'.orders[k]? = some y → ∃ A c, u = .slice A y.ag.length c ∧ RdO w o A y.ag.length (ints y.ag)) :
    RowsAt w' base m' (updT o w.heap.size t) q' x' := by
  have hO := (h.rows t r hr).1
  have k := KeepT.of_grew hO hg
  have ha := upd_agree o w.heap.size t
  refine ⟨lq, vq, fun t' r' e => ?_, fun k' s y hs hy => ⟨(hrl k' s y hs hy).1.keep k ht ha, (hrl k' s y hs hy).2.keep k ht ha⟩, fun k' u y hu hy => ?_⟩
  · by_cases et : t' = t
    · subst et
      rw [hrt] at e
      injection e with e
      subst e
      exact ⟨hO.grew hg hown, hn⟩
    · rcases hrow t' r' et e with e2 | ⟨e2, e3, e4⟩
      · exact ⟨(h.rows t' r' e2).1.keep k et ha, Nat.le_trans (h.rows t' r' e2).2 hm⟩
      · refine ⟨⟨⟨by rw [e4, e2]; simp, .inl ⟨e3, e2⟩⟩, fun g eg => by rw [e3] at eg; cases eg⟩, by omega⟩
  · obtain ⟨A, c, e, hr⟩ := hrv k' u y hu hy
    exact ⟨A, c, e, hr.keep k ht ha⟩
end
/-- What lies in a reading. -/
structure StAt (w : World) (R base m : Nat) (o : Nat → Nat) (q : RS) (x : Wld) (last : ByteArray) : Prop where
  blk : Blk w R 87 (q.ws.cl x ++ [Value.string last]).toArray
  oR : o R = 9
  bR : base ≤ R
  sd : x.seed.length = 32
  so : okB x.seed
  ra : RowsAt w base m o q x
section
variable {w w' : World} {R base m m' : Nat} {o o' : Nat → Nat} {q : RS} {x : Wld} {last : ByteArray}
theorem StAt.later (h : StAt w R base m o q x last) (b : Below w.heap.size w w') (ha : Agree w.heap.size o o') (hm : m ≤ m') : StAt w' R base m' o' q x last :=
  ⟨h.blk.below b h.blk.lt, by rw [ha _ h.blk.lt]; exact h.oR, h.bR, h.sd, h.so, h.ra.keep (KeepT.of_below b o 9) rfl ha hm⟩
/-- The world that has been read lies there. -/
theorem RowsAt.wld (h : RowsAt w base m o q x) : WldAt w w.heap.size q.ws x := by
  have rd : ∀ {t : Nat} {e : TypeId} {sz n c : Nat} {A : Option Addr} {xs : List Value}, rowQ q x t = some ⟨e, sz, .slice A n c, n, xs⟩ → Rd w w.heap.size sz A n xs := by
    intro t e sz n c A xs hr
    obtain ⟨A', c', e2, hd⟩ := Rd.of_own (h.rows t _ hr).1.own
    injection e2 with e2 _ _
    subst e2
    exact hd
  refine ⟨⟨q.ls, h.lq, rd (t := 4) rfl, fun k y hy => ?_⟩, rd (t := 1) rfl, rd (t := 2) rfl, rd (t := 3) rfl, ⟨q.vs, h.vq, rd (t := 5) rfl, fun k y hy => ?_⟩, rd (t := 6) rfl, rd (t := 7) rfl, rd (t := 8) rfl⟩
  · have hk : k < q.ls.length := by rw [h.lq]; exact (List.getElem?_eq_some_iff.1 hy).1
    have hs := List.getElem?_eq_getElem hk
    obtain ⟨h0, h1⟩ := h.rl k _ y hs hy
    refine ⟨_, hs, h0.rd, h1.rd, rd (t := 10 + 2 * k) (e := 59) (c := q.ls[k].c2) ?_, rd (t := 11 + 2 * k) (e := 61) (c := q.ls[k].c3) ?_⟩
    · unfold rowQ
      rw [if_neg (by omega), if_neg (by omega), if_neg (by omega), if_neg (by omega), if_neg (by omega), if_neg (by omega), if_neg (by omega), if_neg (by omega), if_neg (by omega), show (10 + 2 * k - 10) / 2 = k by omega, hs, hy]
      exact if_pos (by omega)
    · unfold rowQ
      rw [if_neg (by omega), if_neg (by omega), if_neg (by omega), if_neg (by omega), if_neg (by omega), if_neg (by omega), if_neg (by omega), if_neg (by omega), if_neg (by omega), show (11 + 2 * k - 10) / 2 = k by omega, hs, hy]
      exact if_neg (by omega)
  · have hk : k < q.vs.length := by rw [h.vq]; exact (List.getElem?_eq_some_iff.1 hy).1
    have hs := List.getElem?_eq_getElem hk
    obtain ⟨A, c, e, hr⟩ := h.rv k _ y hs hy
    exact ⟨A, c, hs.trans (congrArg some e), hr.rd⟩
end
end Go.Proofs.YtmbopkcmbiommaaGreatDoor
