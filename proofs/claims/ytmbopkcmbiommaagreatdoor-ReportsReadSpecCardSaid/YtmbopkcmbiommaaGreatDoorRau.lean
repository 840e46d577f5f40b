/- append of a slice that reads as a list, nil let in; slices of bytes as results. -/
import Derived.Test.YtmbopkcmbiommaaGreatDoorRac
import Derived.Laws.AppendOwnNone
import Derived.OwnWalk
import Derived.Maps.AppendAt
set_option maxRecDepth 1000000
set_option maxHeartbeats 16000000
namespace Go.Proofs.YtmbopkcmbiommaaGreatDoor
open Go.RowKit
theorem addr_plus (b off j : Nat) : (⟨b, off, none⟩ : Addr).add j = ⟨b, off + j, none⟩ := by
  unfold Addr.add
  split
  · rename_i h; rw [h]; rfl
  · rfl
def Sl (w : World) (B sz : Nat) (v : Value) (n : Nat) (xs : List Value) : Prop :=
  ∃ A c, v = .slice A n c ∧ Rd w B sz A n xs ∧ n ≤ c ∧ c ≤ 9223372036854775807 ∧ (A = none → n = 0 ∧ c = 0)
section
variable {w w' : World} {B B' sz n : Nat} {v : Value} {xs : List Value}
theorem Sl.below (h : Sl w B sz v n xs) (hb : Below B w w') : Sl w' B sz v n xs := by
  obtain ⟨A, c, e, hr, h1, h2, h3⟩ := h
  exact ⟨A, c, e, hr.below hb, h1, h2, h3⟩
theorem Sl.more (h : Sl w B sz v n xs) (hB : B ≤ B') : Sl w B' sz v n xs := by
  obtain ⟨A, c, e, hr, h1, h2, h3⟩ := h
  exact ⟨A, c, e, hr.more hB, h1, h2, h3⟩
theorem Sl.of_own {base : Nat} {e : TypeId} (h : w.ownsRow base e sz v n xs) : Sl w w.heap.size sz v n xs := by
  rcases h.2 with ⟨rfl, rfl⟩ | ⟨g, cap, cur, rfl, _, hg, hnc, hm, hsz, htk⟩
  · exact ⟨none, 0, rfl, ⟨h.1, fun hn => absurd hn (by omega)⟩, Nat.le_refl _, by omega, fun _ => ⟨rfl, rfl⟩⟩
  · refine ⟨_, _, rfl, ⟨h.1, fun _ => ⟨g, 0, rfl, Blk.lt hg, fun j u hu => ?_⟩⟩, hnc, hm, fun h => by cases h⟩
    rw [Nat.zero_add, Blk.cell hg]
    rw [← htk, List.getElem?_take] at hu
    split at hu
    · simpa using hu
    · cases hu
theorem Sl.nil_ : Sl w B sz (.slice none 0 0) 0 [] := ⟨none, 0, rfl, Rd.nil_, Nat.le_refl _, by omega, fun _ => ⟨rfl, rfl⟩⟩
end
def RetSl (sz n : Nat) (xs : List Value) (w : World) (r : Ending) (w' : World) : Prop := ∃ v, r = .returned v ∧ Below w.heap.size w w' ∧ Sl w' w'.heap.size sz v n xs
def Grew (w w' : World) (v v' : Value) : Prop := w.grownBy w' v.ownBlock ∧ (v'.ownBlock = v.ownBlock ∨ ∃ g, v'.ownBlock = some g ∧ w.heap.size ≤ g)
theorem Grew.refl (w : World) (v : Value) : Grew w w v v := ⟨World.grownBy.refl _ _, .inl rfl⟩
theorem Grew.trans {w w1 w2 : World} {v v1 v2 : Value} (h : Grew w w1 v v1) (k : Grew w1 w2 v1 v2) : Grew w w2 v v2 := by
  obtain ⟨h1, h2⟩ := h
  obtain ⟨k1, k2⟩ := k
  refine ⟨⟨k1.1.trans h1.1, k1.2.trans h1.2, k1.3.trans h1.3, Nat.le_trans h1.size k1.size, fun i hi hr => ?_⟩, ?_⟩
  · refine (k1.block i (Nat.lt_of_lt_of_le hi h1.size) ?_).trans (h1.block i hi hr)
    rcases h2 with e | ⟨g, e, hg⟩
    · rw [e]; exact hr
    · rw [e]; intro e2; injection e2 with e2; omega
  · rcases k2 with e | ⟨g, e, hg⟩
    · rcases h2 with e2 | ⟨g2, e2, hg2⟩
      · exact .inl (e.trans e2)
      · exact .inr ⟨g2, e.trans e2, hg2⟩
    · exact .inr ⟨g, e, Nat.le_trans h1.size hg⟩
theorem Grew.pre {w w1 w2 : World} {v v' : Value} (hb : Below w.heap.size w w1) (h : Grew w1 w2 v v') : Grew w w2 v v' := by
  obtain ⟨h1, h2⟩ := h
  refine ⟨⟨h1.1.trans hb.os, h1.2.trans hb.tape, h1.3.trans hb.output, Nat.le_trans hb.size h1.size, fun i hi hr => (h1.block i (Nat.lt_of_lt_of_le hi hb.size) hr).trans (hb.block i hi)⟩, ?_⟩
  rcases h2 with e | ⟨g, e, hg⟩
  · exact .inl e
  · exact .inr ⟨g, e, Nat.le_trans hb.size hg⟩
theorem Grew.post {w w1 w2 : World} {v v' : Value} (h : Grew w w1 v v') (hb : Below w1.heap.size w1 w2) : Grew w w2 v v' := by
  obtain ⟨h1, h2⟩ := h
  exact ⟨⟨hb.os.trans h1.1, hb.tape.trans h1.2, hb.output.trans h1.3, Nat.le_trans h1.size hb.size, fun i hi hr => (hb.block i (Nat.lt_of_lt_of_le hi h1.size)).trans (h1.block i hi hr)⟩, h2⟩
theorem Grew.size {w w' : World} {v v' : Value} (h : Grew w w' v v') : w.heap.size ≤ w'.heap.size := h.1.size
theorem Grew.blk {w w' : World} {v v' : Value} {base : Nat} {e t : TypeId} {size n g : Nat} {xs : List Value} {cs : Array Value} (h : Grew w w' v v') (hown : w.ownsRow base e size v n xs) (hB : Blk w g t cs) (hne : t ≠ e) : Blk w' g t cs := by
  refine (h.1.block g hB.lt ?_).trans hB
  rcases hown.2 with ⟨rfl, _⟩ | ⟨g2, cap, cur, rfl, _, hg, _⟩
  · simp [Value.ownBlock]
  · intro e2
    have e3 : g = g2 := by simpa [Value.ownBlock] using e2
    subst e3
    unfold Blk at hB
    rw [hB] at hg
    simp at hg
    exact hne hg.2
theorem Grew.below {w w' : World} {v v' : Value} {base : Nat} {e : TypeId} {size n : Nat} {xs : List Value} (h : Grew w w' v v') (hown : w.ownsRow base e size v n xs) (hb : base ≤ w.heap.size) : Below base w w' :=
  (Below.refl _ _).grown h.1 hb (fun k hk => (hown.lt k hk).1)
theorem Grew.other {w w' : World} {v v' : Value} {g : Nat} (h : Grew w w' v v') (hg : g < w.heap.size) (hne : some g ≠ v.ownBlock) : w'.heap[g]? = w.heap[g]? := h.1.block g hg hne
theorem wpList_appendG {P : Program} {ops : Array Oper} {rest : List Oper} {o : Oper} {a : Act} {Q : Exit → Act → World → Prop} {w : World} (s x : Operand) (t : TypeId)
    (base : Nat) (e : TypeId) (z : Value) (size bytes : Nat) (v : Value) (n : Nat) (xs : List Value) (A : Option Addr) (m c B : Nat) (news : List Value) (hgd : o.guard = none)
    (ho : o.op = .call { callee := .builtin .append, args := #[s, x], argTypes := #[t, t] })
    (ht : P.underlying t = some (.slice e)) (hinfo : (P.info? e).map (fun i => (i.zero, i.size, i.bytes)) = some (some z, size, bytes)) (hzs : z.cells.size = size) (hsz : 0 < size)
    (hs : a.eval s = v) (hown : w.ownsRow base e size v n xs) (hx : a.eval x = .slice A m c) (hr : Rd w B size A m news) (hnil : A = none → m = 0 ∧ c = 0) (h1 : ∀ u ∈ news, u.oneCell' = true)
    (h63 : n + m ≤ maxLen) (hbytes : (n + m) * bytes ≤ 140737488355328) (hbase : base ≤ w.heap.size)
    (h : ∀ v' w', w'.ownsRow base e size v' (n + m) (xs ++ news) → Grew w w' v v' → wpList P ops Q rest (a.put o.dst v') w') :
    wpList P ops Q (o :: rest) a w := by
  obtain ⟨i0, hi, hz0, hz1, hz2⟩ := info_parts hinfo
  cases A with
  | none =>
    obtain ⟨rfl, rfl⟩ := hnil rfl
    have hn0 : news = [] := List.eq_nil_of_length_eq_zero (by rw [hr.1]; simp)
    subst hn0
    refine wpList_append_own_none hgd s x t ho base e i0 size ht hi v n xs hs hown hx ?_
    exact h v w (by simpa using hown) (Grew.refl _ _)
  | some ad =>
    refine wpList_append_own_at w hgd s x t ho base e i0 z size bytes ht hi hz0 hz1 hz2 hzs hsz v n xs hs hown ad m c news hx hr.1 ?_ h1 h63 hbytes hbase ?_
    · intro j u hj
      rcases Nat.eq_zero_or_pos m with h0 | h0
      · subst h0
        have hn0 : news = [] := List.eq_nil_of_length_eq_zero (by rw [hr.1]; simp)
        subst hn0
        simp at hj
      · obtain ⟨b, off, he, _, hc⟩ := hr.2 h0
        injection he with he
        subst he
        rw [addr_plus]
        exact hc j u hj
    · intro v' w' hown' hgrow _ hat
      refine h v' w' hown' ⟨hgrow, ?_⟩
      rcases hat with e | e
      · exact .inl e
      · exact .inr ⟨_, e, Nat.le_refl _⟩
theorem wpList_append1G {P : Program} {ops : Array Oper} {rest : List Oper} {o : Oper} {a : Act} {Q : Exit → Act → World → Prop} (w0 : World) (news : List Value) (s x : Operand) (t : TypeId)
    (base : Nat) (e : TypeId) (z : Value) (size bytes : Nat) (v : Value) (n : Nat) (xs : List Value) (hgd : o.guard = none)
    (ho : o.op = .call { callee := .builtin .append, args := #[s, x], argTypes := #[t, t] })
    (ht : P.underlying t = some (.slice e)) (hinfo : (P.info? e).map (fun i => (i.zero, i.size, i.bytes)) = some (some z, size, bytes)) (hzs : z.cells.size = size) (hsz : 0 < size)
    (hs : a.eval s = v) (hown : w0.ownsRow base e size v n xs) (hx : a.eval x = .slice (some ⟨w0.heap.size, 0, none⟩) 1 1) (hl : news.length = size) (h1 : ∀ u ∈ news, u.oneCell' = true)
    (h63 : n + 1 ≤ maxLen) (hbytes : (n + 1) * bytes ≤ 140737488355328) (hbase : base ≤ w0.heap.size)
    (h : ∀ v' w', w'.ownsRow base e size v' (n + 1) (xs ++ news) → Grew w0 w' v v' → wpList P ops Q rest (a.put o.dst v') w') :
    wpList P ops Q (o :: rest) a (w0.alloc (.cells news.toArray e)) := by
  refine wpList_appendG s x t base e z size bytes v n xs (some ⟨w0.heap.size, 0, none⟩) 1 1 _ news hgd ho ht hinfo hzs hsz hs (hown.alloc _) hx
    (Rd.new w0 news e size 1 _ rfl (by rw [hl, Nat.one_mul])) (fun h => by cases h) h1 h63 hbytes (by simp; omega) fun v' w' hown' hg => ?_
  exact h v' w' hown' (hg.pre (bAl (bRefl _) _))
end Go.Proofs.YtmbopkcmbiommaaGreatDoor
