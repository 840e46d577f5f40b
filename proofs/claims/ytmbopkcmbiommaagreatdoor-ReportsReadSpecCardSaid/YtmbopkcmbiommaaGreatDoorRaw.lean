/- Rows with owners: what a reading holds in memory, and how it grows. -/
import Derived.Test.YtmbopkcmbiommaaGreatDoorRav
import Derived.Maps.AppendAt
import Derived.Deep.AppendLies
import Derived.RangeFuncOwn
import Derived.Test.YtmbopkcmbiommaaGreatDoorRaj
import Derived.Test.YtmbopkcmbiommaaGreatDoorRap
set_option maxRecDepth 1000000
set_option maxHeartbeats 16000000
namespace Go.Proofs.YtmbopkcmbiommaaGreatDoor
open Go Go.RowKit
theorem step_appendG {P : Program} {ops : Array Oper} {o : Oper} {a : Act} {w : World} {K : Act → World → Prop} {Q : Exit → Act → World → Prop} {E : Prop} (s x : Operand) (t : TypeId)
    (base : Nat) (e : TypeId) (z : Value) (size bytes : Nat) (v : Value) (n : Nat) (xs : List Value) (A : Option Addr) (m c B : Nat) (news : List Value) (hgd : o.guard = none)
    (ho : o.op = .call { callee := .builtin .append, args := #[s, x], argTypes := #[t, t] })
    (ht : P.underlying t = some (.slice e)) (hinfo : (P.info? e).map (fun i => (i.zero, i.size, i.bytes)) = some (some z, size, bytes)) (hzs : z.cells.size = size) (hsz : 0 < size)
    (hs : a.eval s = v) (hown : w.ownsRow base e size v n xs) (hx : a.eval x = .slice A m c) (hr : Rd w B size A m news) (hnil : A = none → m = 0 ∧ c = 0) (h1 : ∀ u ∈ news, u.oneCell' = true)
    (h63 : n + m ≤ maxLen) (hbytes : (n + m) * bytes ≤ 140737488355328) (hbase : base ≤ w.heap.size)
    (h : ∀ v' w', w'.ownsRow base e size v' (n + m) (xs ++ news) → Grew w w' v v' → K (a.put o.dst v') w') :
    if Region.wanted o (yielded ops a.tmps) = true then Oper.wp P o a w K Q else E := by
  obtain ⟨i0, hi, hz0, hz1, hz2⟩ := info_parts hinfo
  rw [if_pos (by simp [Region.wanted, hgd])]
  cases A with
  | none =>
    obtain ⟨rfl, rfl⟩ := hnil rfl
    have hn0 : news = [] := List.eq_nil_of_length_eq_zero (by rw [hr.1]; simp)
    subst hn0
    have hrun := run_append_owned_none (P := P) (w := w) base t o.type e i0 size ht hi v n xs hown
    unfold Oper.wp execOp
    simp only [ho, resolve, invoke, builtin, Sem.run_bind, Sem.run_pure, Result.andThen_ok, List.map_toArray, List.map_cons, List.map_nil, hs, hx, hrun]
    exact h v w (by simpa using hown) (Grew.refl _ _)
  | some ad =>
    obtain ⟨v', w', hrun, h2, h3, h4, h5⟩ := run_append_own_at (P := P) w base t o.type e i0 z size bytes ht hi hz0 hz1 hz2 hzs hsz v n xs hown ad m c news hr.1 (by
      intro j u hj
      rcases Nat.eq_zero_or_pos m with h0 | h0
      · subst h0
        have hn0 : news = [] := List.eq_nil_of_length_eq_zero (by rw [hr.1]; simp)
        subst hn0
        simp at hj
      · obtain ⟨b, off, he, _, hc⟩ := hr.2 h0
        injection he with he
        subst he
        rw [addr_plus]
        exact hc j u hj) h1 h63 hbytes hbase
    unfold Oper.wp execOp
    simp only [ho, resolve, invoke, builtin, Sem.run_bind, Sem.run_pure, Result.andThen_ok, List.map_toArray, List.map_cons, List.map_nil, hs, hx, hrun]
    exact h v' w' h2 ⟨h3, h5.imp id fun e => ⟨_, e, Nat.le_refl _⟩⟩
theorem ownsRow_succ {w : World} {base n sz : Nat} {e : TypeId} {v : Value} {xs : List Value} (h : w.ownsRow base e sz v (n + 1) xs) : ∃ g cap, v = .slice (some ⟨g, 0, none⟩) (n + 1) cap := by
  rcases h.2 with ⟨_, h0⟩ | ⟨g, cap, cur, hv, _⟩
  · omega
  · exact ⟨g, cap, hv⟩
structure Rwn where
  e : TypeId
  sz : Nat
  v : Value
  n : Nat
  xs : List Value
structure Own (w : World) (base : Nat) (o : Nat → Nat) (t : Nat) (r : Rwn) : Prop where
  own : w.ownsRow base r.e r.sz r.v r.n r.xs
  tag : ∀ g, r.v.ownBlock = some g → o g = t
def KeepT (o : Nat → Nat) (t : Nat) (w w' : World) : Prop := w.heap.size ≤ w'.heap.size ∧ (∀ g, g < w.heap.size → o g ≠ t → w'.heap[g]? = w.heap[g]?) ∧ KeepsOthers w w'
theorem others_below {A B : World} (b : Below A.heap.size A B) : KeepsOthers A B := ⟨b.size, fun k _ h _ => (b.block k (Array.getElem?_eq_some_iff.1 h).1).trans h⟩
def updT (o : Nat → Nat) (n t : Nat) : Nat → Nat := fun g => if n ≤ g then t else o g
def Agree (n : Nat) (o o' : Nat → Nat) : Prop := ∀ g, g < n → o' g = o g
theorem upd_agree (o : Nat → Nat) (n t : Nat) : Agree n o (updT o n t) := fun g hg => if_neg (by omega)
section
variable {w w' w2 : World} {base t t' R : Nat} {o o' : Nat → Nat} {r : Rwn}
theorem KeepT.of_below (b : Below w.heap.size w w') (o : Nat → Nat) (t : Nat) : KeepT o t w w' := ⟨b.size, fun g hg _ => b.block g hg, others_below b⟩
theorem KeepT.of_grew {v' : Value} (h : Own w base o t r) (hg : Grew w w' r.v v') : KeepT o t w w' :=
  ⟨hg.size, fun g hl ht => hg.other hl (fun e => ht (h.tag g e.symm)), ⟨hg.size, fun k ob hk ho => (hg.other (Array.getElem?_eq_some_iff.1 hk).1 (fun e => by
    rcases h.own.2 with ⟨h2, _⟩ | ⟨g, cap, cur, hv, _, hh, _⟩
    · rw [h2] at e; cases e
    · rw [hv] at e
      injection e with e
      have e2 : k = g := e
      rw [e2, hh] at hk
      injection hk with hk
      subst hk
      simp [Obj.isCells] at ho)).trans hk⟩⟩
theorem KeepT.of_set (hR : o R = t) (i : Nat) (u : Value) : KeepT o t w (w.setCell ⟨R, i, none⟩ u) :=
  ⟨by simp [World.setCell], fun g _ ht => Below.heap_setCell _ _ _ _ (fun e => ht (by have e2 : g = R := e; rw [e2, hR])), KeepsOthers.setCell _ _ _⟩
theorem KeepT.blk {g : Nat} {T : TypeId} {cs : Array Value} (k : KeepT o t w w') (h : Blk w g T cs) (ht : o g ≠ t) : Blk w' g T cs := (k.2.1 g h.lt ht).trans h
theorem Own.keep (h : Own w base o t r) (k : KeepT o t' w w') (ht : t ≠ t') (ha : Agree w.heap.size o o') : Own w' base o' t r := by
  have hl := h.own.lt
  refine ⟨⟨h.own.1, ?_⟩, fun g hg => by rw [ha g (hl g hg).2]; exact h.tag g hg⟩
  rcases h.own.2 with h2 | ⟨g, cap, cur, hv, hb, hh, q⟩
  · exact .inl h2
  · have e : r.v.ownBlock = some g := by rw [hv]; rfl
    exact .inr ⟨g, cap, cur, hv, hb, (k.2.1 g (hl g e).2 (by rw [h.tag g e]; exact ht)).trans hh, q⟩
theorem Own.grew {v' : Value} {n' : Nat} {xs' : List Value} (h : Own w base o t r) (hg : Grew w w' r.v v') (hown : w'.ownsRow base r.e r.sz v' n' xs') : Own w' base (updT o w.heap.size t) t ⟨r.e, r.sz, v', n', xs'⟩ := by
  refine ⟨hown, fun g e => ?_⟩
  unfold updT
  split
  · rfl
  · rename_i hlt
    rcases hg.2 with e2 | ⟨g2, e2, h2⟩
    · exact h.tag g (e2.symm.trans e)
    · have e3 : some g2 = some g := e2.symm.trans e
      injection e3 with e3
      omega
structure RdO (w : World) (o : Nat → Nat) (A : Option Addr) (n : Nat) (xs : List Value) : Prop where
  rd : Rd w w.heap.size 1 A n xs
  tag : ∀ p : Addr, A = some p → 0 < n → o p.block = 0
theorem RdO.keep {A : Option Addr} {n : Nat} {xs : List Value} (h : RdO w o A n xs) (k : KeepT o t w w') (ht : t ≠ 0) (ha : Agree w.heap.size o o') : RdO w' o' A n xs := by
  refine ⟨⟨h.rd.1, fun h0 => ?_⟩, fun p e h0 => ?_⟩
  · obtain ⟨b, off, e, hb, hc⟩ := h.rd.2 h0
    refine ⟨b, off, e, Nat.lt_of_lt_of_le hb k.1, fun j u hu => ?_⟩
    have hk := k.2.1 b hb (by have := h.tag _ e h0; simp only at this; omega)
    rw [← hc j u hu]
    unfold World.cell?
    simp only [hk]
  · obtain ⟨b, off, e2, hb, -⟩ := h.rd.2 h0
    have e3 := e.symm.trans e2
    injection e3 with e3
    subst e3
    rw [ha _ hb]
    exact h.tag _ e h0
end
structure RS where
  ws : WS
  ls : List LS
  vs : List Value
def rowQ (q : RS) (x : Wld) (t : Nat) : Option Rwn :=
  if t = 1 then some ⟨3, 1, .slice q.ws.ab x.base.length q.ws.cb, x.base.length, ints x.base⟩
  else if t = 2 then some ⟨3, 1, .slice q.ws.ag x.leg.length q.ws.cg, x.leg.length, ints x.leg⟩
  else if t = 3 then some ⟨63, 2, .slice q.ws.at_ x.tiers.length q.ws.ct, x.tiers.length, x.tiers.flatMap Tie.cl⟩
  else if t = 4 then some ⟨56, 6, .slice q.ws.al x.lines.length q.ws.cl_, x.lines.length, linsCl q.ls x.lines⟩
  else if t = 5 then some ⟨65, 11, .slice q.ws.ao x.orders.length q.ws.co, x.orders.length, odrsCl x.orders q.vs⟩
  else if t = 6 then some ⟨67, 8, .slice q.ws.ae x.ents.length q.ws.ce, x.ents.length, x.ents.flatMap Ent.cl⟩
  else if t = 7 then some ⟨3, 1, .slice q.ws.as_ x.secs.length q.ws.cs, x.secs.length, ints x.secs⟩
  else if t = 8 then some ⟨71, 4, .slice q.ws.af x.faults.length q.ws.cf, x.faults.length, x.faults.flatMap Slp.cl⟩
  else if t < 10 then none
  else match q.ls[(t - 10) / 2]?, x.lines[(t - 10) / 2]? with
    | some s, some y => if t % 2 = 0 then some ⟨59, 3, .slice s.a2 y.rules.length s.c2, y.rules.length, y.rules.flatMap Rl.cl⟩ else some ⟨61, 2, .slice s.a3 y.off.length s.c3, y.off.length, y.off.flatMap Gp.cl⟩
    | _, _ => none
structure RowsAt (w : World) (base m : Nat) (o : Nat → Nat) (q : RS) (x : Wld) : Prop where
  lq : q.ls.length = x.lines.length
  vq : q.vs.length = x.orders.length
  rows : ∀ t r, rowQ q x t = some r → Own w base o t r ∧ r.n ≤ m
  rl : ∀ (k : Nat) (s : LS) (y : Lin), q.ls[k]? = some s → x.lines[k]? = some y → RdO w o s.a0 y.offs.length (ints y.offs) ∧ RdO w o s.a1 y.legs.length (ints y.legs)
  rv : ∀ (k : Nat) (u : Value) (y : Odr), q.vs[k]? = some u → x.orders[k]? = some y → ∃ A c, u = .slice A y.ag.length c ∧ RdO w o A y.ag.length (ints y.ag)
section
variable {w w' w1 : World} {base m m' t R : Nat} {o o' : Nat → Nat} {q q' : RS} {x x' : Wld} {r : Rwn}
theorem RowsAt.keep (h : RowsAt w base m o q x) (k : KeepT o t w w') (ht : t = 9) (ha : Agree w.heap.size o o') (hm : m ≤ m') : RowsAt w' base m' o' q x := by
  refine ⟨h.lq, h.vq, fun t' r hr => ⟨(h.rows t' r hr).1.keep k (fun e => ?_) ha, Nat.le_trans (h.rows t' r hr).2 hm⟩, fun k' s y hs hy => ⟨(h.rl k' s y hs hy).1.keep k (by omega) ha, (h.rl k' s y hs hy).2.keep k (by omega) ha⟩, fun k' u y hu hy => ?_⟩
  · rw [ht] at e
    subst e
    unfold rowQ at hr
    simp at hr
  · obtain ⟨A, c, e, hr⟩ := h.rv k' u y hu hy
    exact ⟨A, c, e, hr.keep k (by omega) ha⟩
theorem RowsAt.same (h : RowsAt w base m o q x) (e : rowQ q' x' = rowQ q x) (e1 : q'.ls = q.ls) (e2 : q'.vs = q.vs) (e3 : x'.lines = x.lines) (e4 : x'.orders = x.orders) : RowsAt w base m o q' x' :=
  ⟨by rw [e1, e3]; exact h.lq, by rw [e2, e4]; exact h.vq, by rw [e]; exact h.rows, by rw [e1, e3]; exact h.rl, by rw [e2, e4]; exact h.rv⟩
theorem RowsAt.put {v' : Value} {n' : Nat} {xs' : List Value} (h : RowsAt w base m o q x) (hr : rowQ q x t = some r) (ht : t ≠ 0) (hg : Grew w w' r.v v') (hown : w'.ownsRow base r.e r.sz v' n' xs')
    (lq : q'.ls.length = x'.lines.length) (vq : q'.vs.length = x'.orders.length) (hrt : rowQ q' x' t = some ⟨r.e, r.sz, v', n', xs'⟩) (hn : n' ≤ m') (hm : m ≤ m')
    (hrow : ∀ t' r', t' ≠ t → rowQ q' x' t' = some r' → rowQ q x t' = some r' ∨ (r'.n = 0 ∧ r'.v = .slice none 0 0 ∧ r'.xs = []))
    (hrl : ∀ (k : Nat) (s : LS) (y : Lin), q'.ls[k]? = some s → x'.lines[k]? = some y → RdO w o s.a0 y.offs.length (ints y.offs) ∧ RdO w o s.a1 y.legs.length (ints y.legs))
    (hrv : ∀ (k : Nat) (u : Value) (y : Odr), q'.vs[k]? = some u → x'.orders[k]? = some y → ∃ A c, u = .slice A y.ag.length c ∧ RdO w o A y.ag.length (ints y.ag)) :
    RowsAt w' base m' (updT o w.heap.size t) q' x' := by
  have hO := (h.rows t r hr).1
  have k := KeepT.of_grew hO hg
  have ha := upd_agree o w.heap.size t
  refine ⟨lq, vq, fun t' r' e => ?_, fun k' s y hs hy => ⟨(hrl k' s y hs hy).1.keep k ht ha, (hrl k' s y hs hy).2.keep k ht ha⟩, fun k' u y hu hy => ?_⟩
  · by_cases et : t' = t
    · subst et
      rw [hrt] at e
      injection e with e
      subst e
      exact ⟨hO.grew hg hown, hn⟩
    · rcases hrow t' r' et e with e2 | ⟨e2, e3, e4⟩
      · exact ⟨(h.rows t' r' e2).1.keep k et ha, Nat.le_trans (h.rows t' r' e2).2 hm⟩
      · refine ⟨⟨⟨by rw [e4, e2]; simp, .inl ⟨e3, e2⟩⟩, fun g eg => by rw [e3] at eg; cases eg⟩, by omega⟩
  · obtain ⟨A, c, e, hr⟩ := hrv k' u y hu hy
    exact ⟨A, c, e, hr.keep k ht ha⟩
end
structure StAt (w : World) (R base m : Nat) (o : Nat → Nat) (q : RS) (x : Wld) (last : ByteArray) : Prop where
  blk : Blk w R 87 (q.ws.cl x ++ [Value.string last]).toArray
  oR : o R = 9
  bR : base ≤ R
  sd : x.seed.length = 32
  so : okB x.seed
  ra : RowsAt w base m o q x
section
variable {w w' : World} {R base m m' : Nat} {o o' : Nat → Nat} {q : RS} {x : Wld} {last : ByteArray}
theorem StAt.later (h : StAt w R base m o q x last) (b : Below w.heap.size w w') (ha : Agree w.heap.size o o') (hm : m ≤ m') : StAt w' R base m' o' q x last :=
  ⟨h.blk.below b h.blk.lt, by rw [ha _ h.blk.lt]; exact h.oR, h.bR, h.sd, h.so, h.ra.keep (KeepT.of_below b o 9) rfl ha hm⟩
theorem RowsAt.wld (h : RowsAt w base m o q x) : WldAt w w.heap.size q.ws x := by
  have rd : ∀ {t : Nat} {e : TypeId} {sz n c : Nat} {A : Option Addr} {xs : List Value}, rowQ q x t = some ⟨e, sz, .slice A n c, n, xs⟩ → Rd w w.heap.size sz A n xs := by
    intro t e sz n c A xs hr
    obtain ⟨A', c', e2, hd⟩ := Rd.of_own (h.rows t _ hr).1.own
    injection e2 with e2 _ _
    subst e2
    exact hd
  refine ⟨⟨q.ls, h.lq, rd (t := 4) rfl, fun k y hy => ?_⟩, rd (t := 1) rfl, rd (t := 2) rfl, rd (t := 3) rfl, ⟨q.vs, h.vq, rd (t := 5) rfl, fun k y hy => ?_⟩, rd (t := 6) rfl, rd (t := 7) rfl, rd (t := 8) rfl⟩
  · have hk : k < q.ls.length := by rw [h.lq]; exact (List.getElem?_eq_some_iff.1 hy).1
    have hs := List.getElem?_eq_getElem hk
    obtain ⟨h0, h1⟩ := h.rl k _ y hs hy
    refine ⟨_, hs, h0.rd, h1.rd, rd (t := 10 + 2 * k) (e := 59) (c := q.ls[k].c2) ?_, rd (t := 11 + 2 * k) (e := 61) (c := q.ls[k].c3) ?_⟩
    · unfold rowQ
      rw [if_neg (by omega), if_neg (by omega), if_neg (by omega), if_neg (by omega), if_neg (by omega), if_neg (by omega), if_neg (by omega), if_neg (by omega), if_neg (by omega), show (10 + 2 * k - 10) / 2 = k by omega, hs, hy]
      exact if_pos (by omega)
    · unfold rowQ
      rw [if_neg (by omega), if_neg (by omega), if_neg (by omega), if_neg (by omega), if_neg (by omega), if_neg (by omega), if_neg (by omega), if_neg (by omega), if_neg (by omega), show (11 + 2 * k - 10) / 2 = k by omega, hs, hy]
      exact if_neg (by omega)
  · have hk : k < q.vs.length := by rw [h.vq]; exact (List.getElem?_eq_some_iff.1 hy).1
    have hs := List.getElem?_eq_getElem hk
    obtain ⟨A, c, e, hr⟩ := h.rv k _ y hs hy
    exact ⟨A, c, hs.trans (congrArg some e), hr.rd⟩
end
section
variable {P : Program} {ops : Array Oper} {Q : Exit → Act → World → Prop} {S : World → Prop} {l : List (Nat × Oper)} {a a' : Act} {w : World} {R g : Nat} {T T2 : TypeId} {C D : Array Value}
theorem shut_goK {X : Act → World → Prop} {K : Act → World → Prop} (hK : Shut (∀ a w, S w → (S w → X a w) → K a w)) (KS : Hid (∀ w', Blk w' R T C → Blk w' g T2 D → S w')) (h : X a' w) (ht : a = a' := by (try simp only [Act.put, List.setIfInBounds_toArray, List.set_cons_zero, List.set_cons_succ]) <;> with_reducible rfl)
    (h1 : Blk w R T C := by first | with_reducible assumption | with_reducible exact Blk.alloc (by with_reducible assumption) _) (h2 : Blk w g T2 D := by first | with_reducible assumption | with_reducible exact Blk.alloc (by with_reducible assumption) _) : K a w := by
  subst ht
  exact hK.out _ _ (KS.out _ h1 h2) (fun _ => h)
theorem wp_region_schK {id f : Nat} {l : List Oper} (KS : Hid (∀ w', Blk w' R T C → Blk w' g T2 D → S w')) (s : List (Nat × Nat)) (h : wpSched P l.toArray (NoPanic Q) S (pickS s l) a w.drew)
    (hm : P.follows .mixedOrders = true := by kernel_rfl) (hB : scheduled .any l.toArray f s = true := by kernel_rfl)
    (h1 : Blk w.drew R T C := by with_reducible assumption) (h2 : Blk w.drew g T2 D := by with_reducible assumption) : (Code.region id l.toArray true).wp P Q a w :=
  wp_region_sched S f s hm hB (KS.out _ h1 h2) h
end
theorem numsO_len : ∀ {l : List By} {ns : List Int}, numsO l = some ns → ns.length = l.length
  | [], ns, h => by
    have : ns = [] := by simpa [numsO] using h.symm
    subst this
    rfl
  | s :: l, ns, h => by
    unfold numsO at h
    cases hs : numO s with
    | none => rw [hs] at h; cases h
    | some n =>
      cases hl : numsO l with
      | none => rw [hs, hl] at h; cases h
      | some r =>
        rw [hs, hl] at h
        injection h with h
        subst h
        simp [numsO_len hl]
theorem nums_fix {k n : Nat} (x : Wld) (l : List By) (hk : k ≠ 1) (hf : ∀ ns : List Int, formR k ns = decide (ns.length = n)) :
    (numsV l (n : Int) = none ∧ readR x k l = none) ∨ ∃ ns, ns.length = n ∧ numsV l (n : Int) = some ns ∧ readR x k l = some (addR x (k, ns)) := by
  unfold readR numsV
  rw [if_neg hk]
  cases hl : numsO l with
  | none => exact .inl ⟨by split <;> rfl, rfl⟩
  | some ns =>
    have e := numsO_len hl
    simp only [hf]
    by_cases h : ns.length = n
    · refine .inr ⟨ns, h, if_neg (by omega), if_pos (decide_eq_true h)⟩
    · exact .inl ⟨if_pos (by omega), if_neg (by simp [h])⟩
def KeepZ (o : Nat → Nat) (R : Nat) (w w' : World) : Prop := (∀ g, g < w.heap.size → g ≠ R → (o g = 0 ∨ o g = 9) → w'.heap[g]? = w.heap[g]?) ∧ KeepsOthers w w'
theorem KeepZ.of {o o1 : Nat → Nat} {w w1 w2 : World} {R t g0 i : Nat} {v : Value} (b : Below w.heap.size w w1) (ha : Agree w.heap.size o o1) (kk : KeepT o1 t w1 w2) (ht : t ≠ 0) (ht9 : t ≠ 9) (hg : ∀ g, g ≠ R → (o1 g = 0 ∨ o1 g = 9) → g ≠ g0) : KeepZ o R w (w2.setCell ⟨g0, i, none⟩ v) := by
  refine ⟨fun g hl hR h0 => ?_, ((others_below b).trans kk.2.2).trans (KeepsOthers.setCell _ _ _)⟩
  have h1 : o1 g = 0 ∨ o1 g = 9 := by rw [ha g hl]; exact h0
  rw [Below.heap_setCell _ _ _ _ (hg g hR h1), kk.2.1 g (Nat.lt_of_lt_of_le hl b.size) (by omega), b.block g hl]
def RdPost (ox : Option Wld) (o : Nat → Nat) (R base m : Nat) (last : ByteArray) (w : World) (r : Ending) (w' : World) : Prop :=
  (match ox with | some x' => r = .returned (.tuple #[]) ∧ ∃ o' q', Agree w.heap.size o o' ∧ StAt w' R base (m + 1) o' q' x' last | none => r = PanW) ∧ KeepZ o R w w' ∧ Below base w w'
theorem RdPost.noK {ox : Option Wld} {o : Nat → Nat} {R base m : Nat} {last : ByteArray} {w w' : World} (h : ox = none) (kz : KeepZ o R w w') (b : Below base w w') : RdPost ox o R base m last w PanW w' := by rw [h]; exact ⟨rfl, kz, b⟩
theorem RdPost.no {ox : Option Wld} {o : Nat → Nat} {R base m : Nat} {last : ByteArray} {w w' : World} (h : ox = none) (b : Below w.heap.size w w') (hb : base ≤ w.heap.size) : RdPost ox o R base m last w PanW w' := RdPost.noK h ⟨fun g hg _ _ => b.block g hg, others_below b⟩ (b.mono hb)
theorem RdPost.yes {ox : Option Wld} {o : Nat → Nat} {R base m : Nat} {last : ByteArray} {w w' : World} {x' : Wld} {o' : Nat → Nat} {q' : RS} (h : ox = some x') (hs : StAt w' R base (m + 1) o' q' x' last) (b : Below base w w') (kz : KeepZ o R w w') (ha : Agree w.heap.size o o') : RdPost ox o R base m last w (.returned (.tuple #[])) w' := by rw [h]; exact ⟨⟨rfl, _, _, ha, hs⟩, kz, b⟩
theorem agree2 {o : Nat → Nat} {n n1 t : Nat} (h : n ≤ n1) : Agree n o (updT (updT o n 0) n1 t) := fun g hg => by rw [upd_agree _ n1 t g (Nat.lt_of_lt_of_le hg h), upd_agree o n 0 g hg]
theorem own_two {w : World} {base n sz : Nat} {e : TypeId} {v : Value} {xs : List Value} (h : w.ownsRow base e sz v n xs) (hn : 0 < n) : ∃ g cap, v = .slice (some ⟨g, 0, none⟩) n cap := by
  rcases h.2 with ⟨_, h0⟩ | ⟨g, cap, cur, hv, _⟩
  · omega
  · exact ⟨g, cap, hv⟩
theorem StAt.put {w w2 : World} {R base m t off n' : Nat} {o : Nat → Nat} {q q' : RS} {x x' : Wld} {last : ByteArray} {r : Rwn} {v1 : Value} {xs1 : List Value} (h : StAt w R base m o q x last) (hr : rowQ q x t = some r) (ht : t ≠ 0) (ht9 : t ≠ 9)
    (hg : Grew w w2 r.v v1) (hown : w2.ownsRow base r.e r.sz v1 n' xs1) (lq : q'.ls.length = x'.lines.length) (vq : q'.vs.length = x'.orders.length) (hrt : rowQ q' x' t = some ⟨r.e, r.sz, v1, n', xs1⟩) (hn : n' ≤ m + 1)
    (hrow : ∀ t' r', t' ≠ t → rowQ q' x' t' = some r' → rowQ q x t' = some r' ∨ (r'.n = 0 ∧ r'.v = .slice none 0 0 ∧ r'.xs = []))
    (hrl : ∀ (k : Nat) (s : LS) (y : Lin), q'.ls[k]? = some s → x'.lines[k]? = some y → RdO w o s.a0 y.offs.length (ints y.offs) ∧ RdO w o s.a1 y.legs.length (ints y.legs))
    (hrv : ∀ (k : Nat) (u : Value) (y : Odr), q'.vs[k]? = some u → x'.orders[k]? = some y → ∃ A c, u = .slice A y.ag.length c ∧ RdO w o A y.ag.length (ints y.ag))
    (hs : x'.seed = x.seed) (hc : (q.ws.cl x ++ [Value.string last]).toArray.setIfInBounds off v1 = (q'.ws.cl x' ++ [Value.string last]).toArray) : StAt (w2.setCell ⟨R, off, none⟩ v1) R base (m + 1) (updT o w.heap.size t) q' x' last := by
  have hO := (h.ra.rows t r hr).1
  have k := KeepT.of_grew hO hg
  have hR : updT o w.heap.size t R = 9 := by rw [upd_agree o w.heap.size t R h.blk.lt]; exact h.oR
  have hra := h.ra.put hr ht hg hown lq vq hrt hn (Nat.le_succ m) hrow hrl hrv
  refine ⟨?_, hR, h.bR, by rw [hs]; exact h.sd, by rw [hs]; exact h.so, hra.keep (KeepT.of_set hR off v1) rfl (fun g _ => rfl) (Nat.le_refl _)⟩
  rw [← hc]
  exact (k.blk h.blk (by rw [h.oR]; exact fun e => ht9 e.symm)).set_ off v1
theorem tier_info : (Tryz.prog.info? 63).map (fun i => (i.zero, i.size, i.bytes)) = some (some (.agg #[.int .i64 0, .int .i64 0]), 2, 16) := by kernel_rfl
theorem rd_tier (R base m : Nat) (o : Nat → Nat) (q : RS) (x : Wld) (last : ByteArray) (A : Option Addr) (c : Nat) (l : List ByteArray) (W : World) (h : StAt W R base m o q x last) (hA : Rd W W.heap.size 1 A l.length (strs l)) (hl : ∀ s ∈ l, s.size ≤ 1000000) (hn : l.length ≤ 1000000) (hm : m ≤ 1000000) (hG : LibG base W) :
    Calls Tryz.prog 93 #[.pointer (some ⟨R, 0, none⟩), .slice A l.length c] W (RdPost (readR x 3 (bys l)) o R base m last W) := by
  have hbs : base ≤ W.heap.size := Nat.le_trans h.bR (Nat.le_of_lt h.blk.lt)
  have q1 := Lib.hid (rep_numbers base A c l 2 W hA hl hn hG hbs)
  obtain ⟨ox, hox⟩ : ∃ ox, Hid (readR x 3 (bys l) = ox) := ⟨_, Lib.hid rfl⟩
  rw [hox.out]
  have h2 : (numsV (bys l) 2 = none ∧ Hid (ox = none)) ∨ ∃ a0 a1, numsV (bys l) 2 = some [a0, a1] ∧ Hid (ox = some (addR x (3, [a0, a1]))) := by
    rcases nums_fix x (bys l) (k := 3) (n := 2) (by decide) (fun _ => rfl) with ⟨e1, e2⟩ | ⟨ns, hns, e1, e2⟩
    · exact .inl ⟨e1, Lib.hid (hox.out.symm.trans e2)⟩
    · match ns, hns with
      | [a0, a1], _ => exact .inr ⟨a0, a1, e1, Lib.hid (hox.out.symm.trans e2)⟩
  clear hox
  go_enter Tryz.func93, Tryz.ntmps93
  rcases h2 with ⟨e1, e2⟩ | ⟨a0, a1, e1, e2⟩
  · rw [e1] at q1
    go_upto_region 1 with (go_at_call 91; (with_reducible refine q1.out.mono ?_); rintro e w2 ⟨h9, b2⟩; (simp only at h9; unfold PanW at h9; subst h9))
    exact ⟨rfl, RdPost.no e2.out b2 hbs⟩
  · rw [e1] at q1
    go_upto_region 1 with (go_at_call 91; (with_reducible refine q1.out.mono ?_); rintro e w1 ⟨⟨vn, h9, hv⟩, b1⟩; subst h9)
    obtain ⟨g, cap, rfl⟩ := own_two hv (by simp)
    have hv : w1.ownsRow W.heap.size 3 1 (.slice (some ⟨g, 0, none⟩) 2 cap) 2 (ints [a0, a1]) := hv
    obtain ⟨-, hg0, cur, hB, -, -, -, htk⟩ := OwnAt.parts hv
    have h1 := h.later b1 (upd_agree o W.heap.size 0) (Nat.le_refl m)
    have ogn : updT o W.heap.size 0 g = 0 := if_pos hg0
    have d0 : cur[0]? = some (.int .i64 a0) := by rw [← hB.cell]; exact own_cell hv rfl
    have d1 : cur[1]? = some (.int .i64 a1) := by rw [← hB.cell]; exact own_cell hv rfl
    have BR := h1.blk
    have hrow : rowQ q x 3 = some ⟨63, 2, .slice q.ws.at_ x.tiers.length q.ws.ct, x.tiers.length, x.tiers.flatMap Tie.cl⟩ := rfl
    obtain ⟨hO, hOm⟩ := h1.ra.rows 3 _ hrow
    have KS : Hid (∀ w', Blk w' R 87 (q.ws.cl x ++ [Value.string last]).toArray → Blk w' g 3 cur → w'.cell? ⟨R, 4, none⟩ = some (.slice q.ws.at_ x.tiers.length q.ws.ct) ∧ w'.cell? ⟨g, 0, none⟩ = some (.int .i64 a0) ∧ w'.cell? ⟨g, 1, none⟩ = some (.int .i64 a1)) :=
      Lib.hid (fun w' u1 u2 => ⟨by rw [u1.cell, List.getElem?_toArray]; rfl, by rw [u2.cell]; exact d0, by rw [u2.cell]; exact d1⟩)
    have BR2 : Blk w1.drew R 87 (q.ws.cl x ++ [Value.string last]).toArray := BR
    have BG2 : Blk w1.drew g 3 cur := hB
    have hO2 : w1.drew.ownsRow base 63 2 (.slice q.ws.at_ x.tiers.length q.ws.ct) x.tiers.length (x.tiers.flatMap Tie.cl) := hO.own
    have BR3 : Blk (w1.alloc (.cells #[.int .i64 a0, .int .i64 a1] 63)).drew R 87 (q.ws.cl x ++ [Value.string last]).toArray := BR.alloc _
    have BG3 : Blk (w1.alloc (.cells #[.int .i64 a0, .int .i64 a1] 63)).drew g 3 cur := hB.alloc _
    have hO3 : (w1.alloc (.cells #[.int .i64 a0, .int .i64 a1] 63)).drew.ownsRow base 63 2 (.slice q.ws.at_ x.tiers.length q.ws.ct) x.tiers.length (x.tiers.flatMap Tie.cl) := hO.own.alloc _
    have hRd : Rd (w1.alloc (.cells #[.int .i64 a0, .int .i64 a1] 63)).drew _ 2 (some ⟨w1.heap.size, 0, none⟩) 1 [.int .i64 a0, .int .i64 a1] := Rd.new w1 [.int .i64 a0, .int .i64 a1] 63 2 1 _ rfl rfl
    have hone : ∀ u ∈ [Value.int .i64 a0, Value.int .i64 a1], u.oneCell' = true := by intro u hu; simp at hu; rcases hu with rfl | rfl <;> rfl
    have h63 : x.tiers.length + 1 ≤ maxLen := by simp only at hOm; unfold maxLen; omega
    have hby : (x.tiers.length + 1) * 16 ≤ 140737488355328 := by simp only at hOm; omega
    have hbs3 : base ≤ (w1.alloc (.cells #[.int .i64 a0, .int .i64 a1] 63)).drew.heap.size := Nat.le_trans (Nat.le_trans hbs b1.size) (bDr (bAl (bRefl w1) _)).size
    refine wp_region_schK (f := 20) KS [(0, 1), (1, 1), (2, 1), (3, 1), (4, 1), (5, 1), (6, 2), (7, 1), (8, 1), (9, 2), (10, 1), (11, 1), (12, 2), (13, 1), (14, 0), (15, 0), (16, 1), (17, 1), (18, 1), (19, 1), (20, 3)] ?_
    simp only [pickS, List.getElem?_cons_zero, List.getElem?_cons_succ]
    refine wpSched_t ?_
    refine wpSched_t ?_
    refine wpSched_t ?_
    refine wpSched_t ?_
    refine wpSched_t ?_
    refine wpSched_t ?_
    refine wpSched_r ?_
    refine wpSched_t ?_
    refine wpSched_t ?_
    refine wpSched_r ?_
    refine wpSched_t ?_
    refine wpSched_t ?_
    refine wpSched_r ?_
    refine wpSched_t ?_
    refine wpSched_force (fun K hK => ?_)
    first | ((refine step_appendG (.tmp 13) (.tmp 21) 26 base 63 (.agg #[.int .i64 0, .int .i64 0]) 2 16 (.slice q.ws.at_ x.tiers.length q.ws.ct) x.tiers.length (x.tiers.flatMap Tie.cl) (some ⟨w1.heap.size, 0, none⟩) 1 1 _ [.int .i64 a0, .int .i64 a1] rfl rfl Tryz.underlying26 tier_info rfl (by omega) rfl hO3 rfl hRd (by intro h; cases h) hone h63 hby hbs3 (fun v1 w2 hown2 hg2 => ?_); obtain ⟨g1, c1, rfl⟩ := ownsRow_succ hown2; have hgr := hg2.pre (bDr (bAl (bRefl w1) _)); have kk := KeepT.of_grew hO hgr; have BR4 := kk.blk BR (by rw [h1.oR]; decide); have BG4 := kk.blk hB (by rw [ogn]; decide))) | (go_simp)
    refine shut_goK hK KS ?_
    clear hK K
    refine wpSched_force (fun K hK => ?_)
    first | ((refine step_appendG (.tmp 13) (.tmp 21) 26 base 63 (.agg #[.int .i64 0, .int .i64 0]) 2 16 (.slice q.ws.at_ x.tiers.length q.ws.ct) x.tiers.length (x.tiers.flatMap Tie.cl) (some ⟨w1.heap.size, 0, none⟩) 1 1 _ [.int .i64 a0, .int .i64 a1] rfl rfl Tryz.underlying26 tier_info rfl (by omega) rfl hO3 rfl hRd (by intro h; cases h) hone h63 hby hbs3 (fun v1 w2 hown2 hg2 => ?_); obtain ⟨g1, c1, rfl⟩ := ownsRow_succ hown2; have hgr := hg2.pre (bDr (bAl (bRefl w1) _)); have kk := KeepT.of_grew hO hgr; have BR4 := kk.blk BR (by rw [h1.oR]; decide); have BG4 := kk.blk hB (by rw [ogn]; decide))) | (go_simp)
    refine shut_goK hK KS ?_
    clear hK K
    refine wpSched_t ?_
    refine wpSched_t ?_
    refine wpSched_t ?_
    refine wpSched_t ?_
    refine wpSched_last ?_
    first | simp only [List.map_nil] | simp only [List.map_cons, List.map_nil]
    have c4 : w2.cell? ⟨R, 4, none⟩ = some (.slice q.ws.at_ x.tiers.length q.ws.ct) := by rw [BR4.cell, List.getElem?_toArray]; rfl
    have f4 := BR4.frozen 4
    have bw : Below base W (w2.setCell ⟨R, 4, none⟩ (.slice (some ⟨g1, 0, none⟩) (x.tiers.length + 1) c1)) := ((b1.mono hbs).trans (hgr.below hO.own (Nat.le_trans hbs b1.size))).setCell (p := ⟨R, 4, none⟩) h.bR _
    have hfin : StAt (w2.setCell ⟨R, 4, none⟩ (.slice (some ⟨g1, 0, none⟩) (x.tiers.length + 1) c1)) R base (m + 1) (updT (updT o W.heap.size 0) w1.heap.size 3) { q with ws := { q.ws with at_ := some ⟨g1, 0, none⟩, ct := c1 } } (addR x (3, [a0, a1])) last := by
      refine h1.put (t := 3) hrow (by decide) (by decide) hgr hown2 h1.ra.lq h1.ra.vq ?_ (Nat.succ_le_succ hOm) ?_ h1.ra.rl h1.ra.rv rfl ?_
      · show some _ = some _
        simp [addR, nat_, Tie.cl]
      · intro t' r' ht hr'
        left
        rw [← hr']
        unfold rowQ
        simp only [ht, if_false]
        rfl
      · rw [List.setIfInBounds_toArray]
        refine congrArg List.toArray ?_
        simp [WS.cl, addR]
    have hfin := Lib.hid hfin
    clear KS
    go_wp2_with fail
    refine NoPanic.normal ?_
    go_end0
    exact RdPost.yes e2.out hfin.out bw (KeepZ.of b1 (upd_agree o W.heap.size 0) kk (by decide) (by decide) (fun _ h _ => h)) (agree2 b1.size)
end Go.Proofs.YtmbopkcmbiommaaGreatDoor
