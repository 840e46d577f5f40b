/-
  Plain: what post.Check says of a world; what Print and Read give.
-/
import Derived.Test.YtmbopkcmbiommaaGreatDoorMab
import Derived.Test.YtmbopkcmbiommaaGreatDoorRows
import Derived.WalkKit
import Derived.WalkSpells
import Derived.WalkLawsBesides
import Derived.Lib.Hide
import Derived.Deep.QuietTactic
import Derived.BigQuiet
namespace Go.Proofs.YtmbopkcmbiommaaGreatDoor
open Go

def btw (n lo hi : Int) : Bool := decide (lo ≤ n) && decide (n ≤ hi)
/- The timetable. -/
def stopsB (offices : Int) (l : List Int) : Bool := l.all (fun o => btw o 0 (offices - 1)) && decide l.Nodup
def Lin.right (x : Lin) (offices : Int) : Bool :=
  (btw (x.offs.length : Int) 2 9 && decide (x.legs.length + 1 = x.offs.length)) && ((btw x.cls 1 255 && btw x.room 1 64) && (stopsB offices x.offs && x.legs.all (fun n => btw n 1 100000)))
def ruleB (r : Rl) : Bool := decide (0 ≤ r.first ∧ r.first < r.until_ ∧ r.until_ ≤ 2097152 ∧ 1 ≤ r.every ∧ r.every ≤ 2097152)
def gapsB : Int → List Gp → Bool
  | _, [] => true
  | b, g :: l => decide (b < g.from_ ∧ g.from_ < g.until_ ∧ g.until_ ≤ 2097152) && gapsB g.until_ l
def calE (rules : List Rl) (off : List Gp) : Int :=
  if 16 < rules.length ∨ 64 < off.length then 2 else if rules.all ruleB = true then (if gapsB (-1) off = true then 0 else 190) else 190
def calsE : List Lin → Int
  | [] => 0
  | x :: l => if calE x.rules x.off = 0 then calsE l else calE x.rules x.off
def tableE (offices : Int) (l : List Lin) : Int :=
  if 64 < l.length then 2 else if btw offices 0 24 = true then (if l.all (fun x => x.right offices) = true then calsE l else 200) else 200
/- The tariff. -/
def priceB (n : Int) : Bool := btw n 0 1048576
def tiersB : Int → List Tie → Bool
  | _, [] => true
  | b, x :: l => (decide (b < x.from_) && priceB x.extra) && tiersB x.from_ l
def tariffE (base leg : List Int) (tiers : List Tie) : Int :=
  if (decide (base.length = leg.length) && (decide (1 ≤ base.length) && (decide (base.length ≤ 8) && (decide (tiers.length ≤ 16) && (base.all priceB && (leg.all priceB && tiersB 0 tiers)))))) = true then 0 else 210
/- The orders. -/
def agB (offices : Int) : Int → List Int → Bool
  | _, [] => true
  | last, k :: l => (decide (last < k) && decide (k < offices)) && agB offices k l
def blw (x n : Int) : Bool := decide (0 ≤ x) && decide (x < n)
def Odr.right (o : Odr) (offices people classes : Int) : Bool :=
  blw o.from_ offices && (blw o.dest offices && (blw o.person people && (blw o.cls classes && (blw o.after o.by_ && (blw o.by_ 2097152 && (blw (o.crowd - 1) 64 && (blw o.pay 1099511627777 && (blw o.els 3 && (decide (o.from_ ≠ o.dest) && agB offices (-1) o.ag)))))))))
/- The registry. -/
def idB (n : Int) : Bool := btw n 0 1048576
def spanB (a b : Int) : Bool := decide (0 ≤ a ∧ a < b ∧ b ≤ 2097152)
def Ent.fits (x : Ent) : Bool := if x.kind = 1 then blw x.b 24 else if x.kind = 2 then decide (x.a ≠ x.b) && idB x.b else decide ((x.kind = 3 ∨ x.kind = 4) ∧ x.b = 0)
def Ent.right (x : Ent) : Bool := idB x.no && (idB x.a && (x.fits && (spanB x.from_ x.until_ && spanB x.known x.gone)))
def entsB : Int → List Ent → Bool
  | _, [] => true
  | last, x :: l => (x.right && decide (last < x.no)) && entsB x.no l
def entsE (l : List Ent) : Int := if 1024 < l.length then 2 else if entsB (-1) l = true then 0 else 330
/- The faults. -/
def slpB (x : Slp) : Bool := decide (0 ≤ x.run) && decide (0 ≤ x.leg)
def slpsB : Option Slp → List Slp → Bool
  | _, [] => true
  | none, x :: l => slpB x && slpsB (some x) l
  | some y, x :: l => (slpB x && decide (y.run < x.run ∨ y.run = x.run ∧ y.leg < x.leg)) && slpsB (some x) l
def secretB (n : Int) : Bool := decide (1 ≤ n ∧ n < 1073741789)
/-- What post.Check says. -/
def postE (w : Wld) : Int :=
  if tableE w.offs w.lines = 0 then
    if tariffE w.base w.leg w.tiers = 0 then
      if btw w.people 0 1024 = true then
        if w.orders.length ≤ 64 ∧ w.orders.all (fun o => o.right w.offs w.people (w.base.length : Int)) = true then
          if entsE w.ents = 0 then
            if (w.secs.length : Int) = w.offs ∧ w.secs.all secretB = true then
              if slpsB none w.faults = true then 0 else 530
            else 530
          else entsE w.ents
        else 220
      else 530
    else tariffE w.base w.leg w.tiers
  else tableE w.offs w.lines
theorem calE_ne (r : List Rl) (o : List Gp) : calE r o ≠ 590 := by
  unfold calE
  repeat' split
  all_goals decide
theorem calsE_ne : ∀ l : List Lin, calsE l ≠ 590
  | [] => by decide
  | x :: l => by
    unfold calsE
    split
    · exact calsE_ne l
    · exact calE_ne _ _
theorem postE_ne (w : Wld) : postE w ≠ 590 := by
  unfold postE
  have h1 : tableE w.offs w.lines ≠ 590 := by
    unfold tableE
    repeat' split
    all_goals first | exact calsE_ne _ | decide
  have h2 : tariffE w.base w.leg w.tiers ≠ 590 := by
    unfold tariffE
    split <;> decide
  have h3 : entsE w.ents ≠ 590 := by
    unfold entsE
    repeat' split
    all_goals decide
  repeat' split
  all_goals first | assumption | decide
theorem post_fine {w : Wld} (h : postE w = 0) (hs : ∀ d ∈ w.seed, d < 256) (hl : w.seed.length = 32) : w.fine := by
  unfold postE at h
  split at h
  · rename_i h1
    split at h
    · rename_i h2
      refine ⟨?_, fun x hx => ?_, hs, hl⟩
      · unfold tariffE at h2
        split at h2
        · rename_i h3
          rw [Bool.and_eq_true] at h3
          exact of_decide_eq_true h3.1
        · cases h2
      · unfold tableE at h1
        split at h1
        · cases h1
        · split at h1
          · split at h1
            · rename_i h3
              have h4 := List.all_eq_true.1 h3 x hx
              unfold Lin.right at h4
              simp only [Bool.and_eq_true] at h4
              exact (of_decide_eq_true h4.1.2).symm
            · cases h1
          · cases h1
    · rename_i h2; exact absurd h h2
  · rename_i h1; exact absurd h h1
/-- What Print gives. -/
def printV (w : Wld) : By × Int := if postE w = 0 then (if w.okW = true then (w.text, 0) else ([], 590)) else ([], postE w)
/-- What Read gives. -/
def readV (src : By) : Wld × Nat × Int := match foldW 0 (zeroW, 0) (linesC src) with
  | .inr n => (zeroW, n, 590)
  | .inl (w, k) => if k = 0 then (zeroW, 1, 590) else if postE w = 0 then (w, 0, 0) else (zeroW, 0, postE w)
theorem read_print {w : Wld} {t : By} (hs : ∀ d ∈ w.seed, d < 256) (hl : w.seed.length = 32) (h : printV w = (t, 0)) : readV t = (w, 0, 0) := by
  unfold printV at h
  split at h
  · rename_i hp
    split at h
    · rename_i ho
      injection h with h h2
      subst h
      obtain ⟨k, hk, e⟩ := fold_text (post_fine hp hs hl) ho
      unfold readV
      rw [e]
      simp only
      rw [if_neg (by omega), if_pos hp]
    · injection h with h h2; cases h2
  · rename_i hp
    injection h with h h2
    exact absurd h2 hp
theorem print_read {w : Wld} {src : By} {n : Nat} (h : readV src = (w, n, 0)) : n = 0 ∧ printV w = (src, 0) ∧ postE w = 0 ∧ (∀ d ∈ w.seed, d < 256) ∧ w.seed.length = 32 := by
  unfold readV at h
  split at h
  · injection h with h1 h2; injection h2 with h2 h3; cases h3
  · rename_i w' k e
    split at h
    · injection h with h1 h2; injection h2 with h2 h3; cases h3
    · rename_i hk
      split at h
      · rename_i hp
        injection h with h1 h2
        injection h2 with h2 h3
        subst h1
        obtain ⟨e1, e2, e3⟩ := text_fold e hk
        refine ⟨h2.symm, ?_, hp, e3.seed, e3.s32⟩
        unfold printV
        rw [if_pos hp, if_pos e2, e1]
      · rename_i hp
        injection h with h1 h2
        injection h2 with h2 h3
        exact absurd h3 hp
/-- What Read says of a text that it does not take. -/
theorem read_no {src : By} {w : Wld} {n : Nat} {e : Int} (h : readV src = (w, n, e)) (he : e ≠ 0) : w = zeroW ∧ (e = 590 ↔ 0 < n) := by
  unfold readV at h
  split at h
  · rename_i k hk
    injection h with h1 h2
    injection h2 with h2 h3
    subst h2
    refine ⟨h1.symm, fun _ => ?_, fun _ => h3.symm⟩
    have : ∀ (ts : List By) (m : Nat) (st : Wld × Nat) (k : Nat), foldW m st ts = .inr k → 0 < k := by
      intro ts
      induction ts with
      | nil => intro m st k h; cases h
      | cons t ts ih =>
        intro m st k h
        have h' : (match stepW st t with | some st' => foldW (m + 1) st' ts | none => .inr (m + 1)) = .inr k := h
        cases hs : stepW st t with
        | none => rw [hs] at h'; injection h' with h'; omega
        | some s => rw [hs] at h'; exact ih _ _ _ h'
    exact this _ _ _ _ hk
  · rename_i w' k hk
    split at h
    · injection h with h1 h2
      injection h2 with h2 h3
      exact ⟨h1.symm, fun _ => by omega, fun _ => h3.symm⟩
    · split at h
      · injection h with h1 h2
        injection h2 with h2 h3
        exact absurd h3.symm he
      · injection h with h1 h2
        injection h2 with h2 h3
        exact ⟨h1.symm, fun h4 => absurd (h3.trans h4) (postE_ne _), fun h4 => by omega⟩
/- Reports whose last lines are left out, or that have a wrong line. -/
theorem read_some {w : Wld} {a b : List By} {t : By} (hs : ∀ d ∈ w.seed, d < 256) (hl : w.seed.length = 32) (h : printV w = (t, 0)) (hab : linesC t = a ++ b) : ∃ s, foldW 0 (zeroW, 0) a = .inl s ∧ (a ≠ [] → s.2 ≠ 0) := by
  unfold printV at h
  split at h
  · rename_i hp
    split at h
    · rename_i ho
      injection h with h h2
      subst h
      have hf := post_fine hp hs hl
      obtain ⟨k, hk, e⟩ := fold_text hf ho
      rw [hab] at e
      obtain ⟨s, es⟩ := fold_pre e
      refine ⟨s, es, fun hne => ?_⟩
      cases a with
      | nil => exact absurd rfl hne
      | cons x a =>
        have h' : (match stepW (zeroW, 0) x with | some st' => foldW (0 + 1) st' a | none => .inr (0 + 1)) = .inl s := es
        cases hx : stepW (zeroW, 0) x with
        | none => rw [hx] at h'; cases h'
        | some st =>
          obtain ⟨w1, k1⟩ := st
          rw [hx] at h'
          obtain ⟨rfl, e1, I1, er, -⟩ := step_first hx
          obtain ⟨s1, s2⟩ := s
          have := (fold_some a _ w1 s1 1 s2 h' (Nat.le_refl _) I1 (by rw [er]; rfl)).2.2.2.1
          exact fun h0 => by have h1 : s2 = 0 := h0; omega
    · injection h with h h2; cases h2
  · rename_i hp
    injection h with h h2
    exact absurd h2 hp
theorem print_text {w : Wld} {t : By} (h : printV w = (t, 0)) : t = w.text ∧ postE w = 0 ∧ w.okW = true := by
  unfold printV at h
  split at h
  · rename_i hp
    split at h
    · rename_i ho
      injection h with h h2
      exact ⟨h.symm, hp, ho⟩
    · injection h with h h2; cases h2
  · rename_i hp
    injection h with h h2
    exact absurd h2 hp
theorem linesC_flatten : ∀ {l : List By}, (∀ t ∈ l, ∃ a, t = a ++ [10] ∧ ∀ x ∈ a, x ≠ 10) → linesC l.flatten = l
  | [], _ => rfl
  | t :: l, h => by
    obtain ⟨a, e, ha⟩ := h t (List.mem_cons_self ..)
    rw [List.flatten_cons, e, List.append_assoc, List.singleton_append, linesC_row ha, linesC_flatten (fun x hx => h x (List.mem_cons_of_mem _ hx))]
theorem lines_end {w : Wld} (hs : ∀ d ∈ w.seed, d < 256) : ∀ t ∈ linesC w.text, ∃ a, t = a ++ [10] ∧ ∀ x ∈ a, x ≠ 10 := by
  intro t ht
  rw [lines_text hs] at ht
  rcases List.mem_cons.1 ht with rfl | ht
  · exact headT_ends hs
  · obtain ⟨r, -, rfl⟩ := List.mem_map.1 ht
    exact rowT_ends r
/-- The first lines of a report. -/
theorem read_take {w : Wld} {t : By} {n : Nat} (hs : ∀ d ∈ w.seed, d < 256) (hl : w.seed.length = 32) (h : printV w = (t, 0)) : (n = 0 → readV ((linesC t).take n).flatten = (zeroW, 1, 590)) ∧ (n ≠ 0 → ∃ x e, readV ((linesC t).take n).flatten = (x, 0, e) ∧ e ≠ 590) := by
  refine ⟨fun h0 => by subst h0; rfl, fun h0 => ?_⟩
  obtain ⟨e1, -, -⟩ := print_text h
  obtain ⟨s, es, hne⟩ := read_some (a := (linesC t).take n) (b := (linesC t).drop n) hs hl h (List.take_append_drop ..).symm
  have hlt : linesC ((linesC t).take n).flatten = (linesC t).take n := linesC_flatten (fun x hx => lines_end hs x (by rw [← e1]; exact List.mem_of_mem_take hx))
  have hnil : (linesC t).take n ≠ [] := by
    rw [e1, lines_text hs]
    obtain ⟨m, rfl⟩ : ∃ m, n = m + 1 := ⟨n - 1, by omega⟩
    simp
  unfold readV
  rw [hlt, es]
  obtain ⟨x, k⟩ := s
  simp only
  rw [if_neg (hne hnil)]
  split
  · exact ⟨_, _, rfl, by decide⟩
  · exact ⟨_, _, rfl, postE_ne _⟩
/-- A line of a report is replaced by one that is wrong wherever it stands. -/
theorem read_bad {w : Wld} {t odd : By} {k : Nat} (hs : ∀ d ∈ w.seed, d < 256) (hl : w.seed.length = 32) (h : printV w = (t, 0)) (hk : k < (linesC t).length) (hb : badL odd) : readV ((linesC t).set k odd).flatten = (zeroW, k + 1, 590) := by
  obtain ⟨e1, -, -⟩ := print_text h
  obtain ⟨s, es, -⟩ := read_some (a := (linesC t).take k) (b := (linesC t).drop k) hs hl h (List.take_append_drop ..).symm
  have hend : ∀ x ∈ (linesC t).set k odd, ∃ a, x = a ++ [10] ∧ ∀ y ∈ a, y ≠ 10 := fun x hx => by
    rcases List.mem_or_eq_of_mem_set hx with hx | rfl
    · exact lines_end hs x (by rw [← e1]; exact hx)
    · exact hb.2
  unfold readV
  rw [linesC_flatten hend, List.set_eq_take_append_cons_drop, if_pos hk, fold_bad es hb]
  simp only [Nat.zero_add, List.length_take, Nat.min_eq_left (Nat.le_of_lt hk)]
theorem rows_len {w : Wld} (h : w.base.length = w.leg.length) : w.rows.length = w.base.length + w.tiers.length + (w.lines.length + (w.lines.map (fun x => x.rules.length + x.off.length)).sum) + w.orders.length + w.ents.length + w.secs.length + w.faults.length := by
  have hl : ∀ l : List Lin, (l.flatMap linR).length = l.length + (l.map (fun x => x.rules.length + x.off.length)).sum := by
    intro l
    induction l with
    | nil => rfl
    | cons x l ih => rw [List.flatMap_cons, List.length_append, ih]; simp [linR]; omega
  unfold Wld.rows
  simp only [List.length_append, List.length_map, List.length_zip, hl]
  omega
end Go.Proofs.YtmbopkcmbiommaaGreatDoor

/-
  Words for memory that all walks of this seat use: a slice that reads as a list of cells, a block that is known whole; posts behind definitions.
-/
namespace Go.Proofs.YtmbopkcmbiommaaGreatDoor
open Go.RowKit

/-- The slice value with address A and n elements of sz cells holds the cells xs, in a block below B. -/
def Rd (w : World) (B sz : Nat) (A : Option Addr) (n : Nat) (xs : List Value) : Prop :=
  xs.length = n * sz ∧ (0 < n → ∃ b off, A = some ⟨b, off, none⟩ ∧ b < B ∧ ∀ j u, xs[j]? = some u → w.cell? ⟨b, off + j, none⟩ = some u)

section
variable {w w' : World} {B B' sz n : Nat} {A : Option Addr} {xs : List Value}
theorem Rd.nil_ : Rd w B sz A 0 [] := ⟨by simp, fun h => absurd h (by omega)⟩
theorem Rd.keep (h : Rd w B sz A n xs) (hk : ∀ p : Addr, p.block < B → w'.cell? p = w.cell? p) : Rd w' B sz A n xs :=
  ⟨h.1, fun hn => by
    obtain ⟨b, off, e, hb, hc⟩ := h.2 hn
    exact ⟨b, off, e, hb, fun j u hu => (hk _ hb).trans (hc j u hu)⟩⟩
theorem Rd.more (h : Rd w B sz A n xs) (hB : B ≤ B') : Rd w B' sz A n xs :=
  ⟨h.1, fun hn => by
    obtain ⟨b, off, e, hb, hc⟩ := h.2 hn
    exact ⟨b, off, e, by omega, hc⟩⟩
theorem Rd.below (h : Rd w B sz A n xs) (hb : Below B w w') : Rd w' B sz A n xs := h.keep fun _ hp => hb.cell hp
theorem Rd.alloc (h : Rd w B sz A n xs) (hB : B ≤ w.heap.size) (o : Obj) : Rd (w.alloc o) B sz A n xs :=
  h.below ((Below.refl _ _).alloc hB o)
end

/-- Block g is just the cells cs of element type t. -/
def Blk (w : World) (g : Nat) (t : TypeId) (cs : Array Value) : Prop := w.heap[g]? = some (.cells cs t (0, 0))

section
variable {w w' : World} {g : Nat} {t : TypeId} {cs : Array Value}
theorem Blk.lt (h : Blk w g t cs) : g < w.heap.size := by
  rcases Nat.lt_or_ge g w.heap.size with hlt | hge
  · exact hlt
  · unfold Blk at h; rw [Array.getElem?_eq_none hge] at h; cases h
theorem Blk.cell (h : Blk w g t cs) (i : Nat) : w.cell? ⟨g, i, none⟩ = cs[i]? := by
  unfold Blk at h; simp [World.cell?, h]
theorem Blk.frozen (h : Blk w g t cs) (i : Nat) : w.frozen? ⟨g, i, none⟩ = false := by
  unfold Blk at h; simp [World.frozen?, h]
theorem Blk.new (w : World) (t : TypeId) (cs : Array Value) (b : Nat) (hb : b = w.heap.size) : Blk (w.alloc (.cells cs t)) b t cs := by
  subst hb
  show (w.heap.push _)[w.heap.size]? = _
  simp
theorem Blk.alloc (h : Blk w g t cs) (o : Obj) : Blk (w.alloc o) g t cs := (Below.heap_alloc w o g h.lt).trans h
theorem Blk.below {B : Nat} (h : Blk w g t cs) (hb : Below B w w') (hg : g < B) : Blk w' g t cs := (hb.block g hg).trans h
theorem Blk.far (h : Blk w g t cs) {p : Addr} (hp : g ≠ p.block) (u : Value) : Blk (w.setCell p u) g t cs := (Below.heap_setCell w p u g hp).trans h
theorem Blk.set_ (h : Blk w g t cs) (i : Nat) (u : Value) : Blk (w.setCell ⟨g, i, none⟩ u) g t (cs.setIfInBounds i u) := by
  unfold Blk at h ⊢
  simp [World.setCell, Array.getElem?_modify, h]
end

/-- A slice that has just been built of cells. -/
theorem Rd.new (w : World) (cs : List Value) (t : TypeId) (sz n b : Nat) (hb : b = w.heap.size) (h : cs.length = n * sz) :
    Rd (w.alloc (.cells cs.toArray t)) (w.alloc (.cells cs.toArray t)).heap.size sz (some ⟨b, 0, none⟩) n cs := by
  subst hb
  exact ⟨h, fun _ => ⟨w.heap.size, 0, rfl, by simp, fun j u hu => by
    rw [Nat.zero_add, (Blk.new w t cs.toArray _ rfl).cell j]; simpa using hu⟩⟩

/-- Below, over new blocks, stores into new blocks and further calls: the bound is the elder world's own size. -/
theorem bRefl (w : World) : Below w.heap.size w w := Below.refl _ _
theorem bAl {a w : World} (h : Below a.heap.size a w) (o : Obj) : Below a.heap.size a (w.alloc o) := h.alloc h.size o
theorem bCall {a w w' : World} (h : Below a.heap.size a w) (k : Below w.heap.size w w') : Below a.heap.size a w' := h.trans (k.mono h.size)
theorem bSet {a w : World} (h : Below a.heap.size a w) {p : Addr} (hp : a.heap.size ≤ p.block) (u : Value) : Below a.heap.size a (w.setCell p u) := h.setCell hp u

theorem bDrN {a w : World} (h : Below a.heap.size a w) (n : Nat) : Below a.heap.size a (w.drewN n) := ⟨h.os, h.tape, h.output, h.size, h.block⟩
theorem bDr {a w : World} (h : Below a.heap.size a w) : Below a.heap.size a w.drew := h.drew

/-- Posts, behind definitions. -/
def Ret (v : Value) (w : World) (r : Ending) (w' : World) : Prop := r = .returned v ∧ Below w.heap.size w w'
def Same (v : Value) (w : World) (r : Ending) (w' : World) : Prop := r = .returned v ∧ w = w'
def Pan (T : TypeId) (e : Int) (w : World) (r : Ending) (w' : World) : Prop :=
  r = .panicked [{ v := .iface T (.int .i64 e), recovered := false }] ∧ Below w.heap.size w w'

theorem ret_bool {a b : Bool} (h : a = b) : Ending.returned (.bool a) = .returned (.bool b) := by rw [h]
theorem ret_int {k : IntKind} {a b : Int} (h : a = b) : Ending.returned (.int k a) = .returned (.int k b) := by rw [h]

/-- A world that is as w was, but for new blocks and draws: what a region comes to whose operations only read, and whose callees only make memory. -/
structure Later where
  blocks : Array Obj
  drawn : Nat
instance later_there : Inhabited Later := ⟨⟨#[], 0⟩⟩
def later (w : World) (x : Later) : World := { w with heap := w.heap ++ x.blocks, drawn := x.drawn }
theorem later_below (w : World) (x : Later) : Below w.heap.size w (later w x) :=
  ⟨rfl, rfl, rfl, by simp [later], fun k hk => by simp [later, Array.getElem?_append, hk]⟩
theorem later_of {w w' : World} (h : Below w.heap.size w w') : ∃ x : Later, w' = later w x := by
  refine ⟨⟨w'.heap.extract w.heap.size, w'.drawn⟩, ?_⟩
  have he : w'.heap = w.heap ++ w'.heap.extract w.heap.size := by
    apply Array.ext_getElem?
    intro i
    rw [Array.getElem?_append]
    split
    · rename_i hi; exact h.block i hi
    · rename_i hi
      have hs := h.size
      rw [Array.getElem?_extract]
      by_cases hl : i < w'.heap.size
      · rw [if_pos (by omega)]
        congr 1
        omega
      · rw [if_neg (by omega), Array.getElem?_eq_none (by omega)]
  cases w' with
  | mk heap tape drawn os output =>
    have h1 := h.os
    have h2 := h.tape
    have h3 := h.output
    simp only at h1 h2 h3 he
    subst h1; subst h2; subst h3
    simp only [later, World.mk.injEq, and_true]
    exact he
theorem cell_later (w : World) (x : Later) (p : Addr) (h : p.block < w.heap.size) : (later w x).cell? p = w.cell? p := (later_below w x).cell h
theorem frozen_later (w : World) (x : Later) (p : Addr) (h : p.block < w.heap.size) : (later w x).frozen? p = w.frozen? p := (later_below w x).frozen h
theorem block_later (w : World) (x : Later) (b : Nat) (h : b < w.heap.size) : (later w x).heap[b]? = w.heap[b]? := (later_below w x).block b h
attribute [go_sem] cell_later frozen_later block_later
theorem Rd.later {w : World} {B sz n : Nat} {A : Option Addr} {xs : List Value} (h : Rd w B sz A n xs) (hB : B ≤ w.heap.size) (x : Later) : Rd (later w x) B sz A n xs := h.below ((later_below w x).mono hB)
/-- One walk, in the order of the text, serves every order. -/
theorem wp_region_later_lit {P : Program} {id : Nat} {Q : Exit → Act → World → Prop} {a : Act} {w : World} {l : List Oper} (w0 : World) (h0 : Below w0.heap.size w0 w) (hm : P.follows .mixedOrders = true) (hB : Region.lexB .any l.toArray = true)
    (h : wpQuiet P l.toArray (fun w' => ∃ x : Later, w' = Proofs.YtmbopkcmbiommaaGreatDoor.later w0 x) (fun a' => ∀ w', (∃ x : Later, w' = Proofs.YtmbopkcmbiommaaGreatDoor.later w0 x) → Q .normal a' w') l a) : (Code.region id l.toArray true).wp P Q a w :=
  wp_region_quiet (C := fun w' => ∃ x : Later, w' = Proofs.YtmbopkcmbiommaaGreatDoor.later w0 x) hm hB (later_of (Below.drew h0)) (by simpa using h)
theorem later_ret {P : Program} {f : FuncId} {args : Array Value} {v : Value} {w : World} {x : Later} (h : Calls P f args (later w x) (Ret v (later w x))) :
    Calls P f args (later w x) fun e w'' => e = .returned v ∧ ∃ y : Later, w'' = later w y :=
  h.mono fun _ _ ⟨he, hb⟩ => ⟨he, later_of (bCall (later_below w x) hb)⟩
theorem later_same {P : Program} {f : FuncId} {args : Array Value} {v : Value} {w : World} {x : Later} (h : Calls P f args (later w x) (Same v (later w x))) :
    Calls P f args (later w x) fun e w'' => e = .returned v ∧ ∃ y : Later, w'' = later w y :=
  h.mono fun _ _ ⟨he, hb⟩ => ⟨he, x, hb.symm⟩

theorem Rd.cut {w : World} {B sz n b off : Nat} {xs : List Value} (h : Rd w B sz (some ⟨b, off, none⟩) n xs) (k : Nat) (hk : k ≤ n) : Rd w B sz (some ⟨b, off + k * sz, none⟩) (n - k) (xs.drop (k * sz)) := by
  refine ⟨by rw [List.length_drop, h.1, Nat.sub_mul], fun hn => ?_⟩
  obtain ⟨b', off', e, hb, hc⟩ := h.2 (by omega)
  injection e with e
  injection e with e1 e2
  subst e1; subst e2
  refine ⟨_, _, rfl, hb, fun j u hu => ?_⟩
  rw [List.getElem?_drop] at hu
  have := hc _ u hu
  rwa [← Nat.add_assoc] at this

/-- Whole numbers in memory. -/
def ints (l : List Int) : List Value := l.map (Value.int .i64)
theorem ints_length (l : List Int) : (ints l).length = l.length := by simp [ints]
theorem ints_at {l : List Int} {k : Nat} {x : Int} (h : l[k]? = some x) : (ints l)[k]? = some (.int .i64 x) := by simp [ints, h]
theorem Int_at {w : World} {B n k : Nat} {A : Option Addr} {l : List Int} {x : Int} (h : Rd w B 1 A n (ints l)) (hn : k < n) (hx : l[k]? = some x) :
    ∃ b off, A = some ⟨b, off, none⟩ ∧ b < B ∧ w.cell? ⟨b, off + k, none⟩ = some (.int .i64 x) := by
  obtain ⟨b, off, hA, hb, hc⟩ := h.2 (by omega)
  exact ⟨b, off, hA, hb, hc _ _ (ints_at hx)⟩
/-- A function ends with a list of numbers and an error. -/
def RetIL (l : List Int) (e : Int) (w : World) (r : Ending) (w' : World) : Prop :=
  ∃ A c, r = .returned (.tuple #[.slice A l.length c, .int .i64 e]) ∧ Below w.heap.size w w' ∧ Rd w' w'.heap.size 1 A l.length (ints l)

/-- What a slice that the call owns reads as. -/
theorem Rd.of_own {w : World} {base : Nat} {e : TypeId} {sz n : Nat} {v : Value} {xs : List Value} (h : w.ownsRow base e sz v n xs) : ∃ A c, v = .slice A n c ∧ Rd w w.heap.size sz A n xs := by
  rcases h.2 with ⟨rfl, rfl⟩ | ⟨g, cap, cur, rfl, _, hg, hnc, _, hsz, htk⟩
  · exact ⟨none, 0, rfl, h.1, fun hn => absurd hn (by omega)⟩
  · refine ⟨_, _, rfl, h.1, fun _ => ⟨g, 0, rfl, Blk.lt hg, fun j u hu => ?_⟩⟩
    rw [Nat.zero_add, Blk.cell hg]
    rw [← htk, List.getElem?_take] at hu
    split at hu
    · simpa using hu
    · cases hu
theorem ownsRow_nil' (w : World) (base : Nat) (e : TypeId) (sz : Nat) : w.ownsRow base e sz (.slice none 0 0) 0 [] := World.ownsRow_nil w base e sz
theorem ownsRow_keep {w w' : World} {base : Nat} {e : TypeId} {sz n : Nat} {v : Value} {xs : List Value} (h : w.ownsRow base e sz v n xs) (hb : Below w.heap.size w w') : w'.ownsRow base e sz v n xs := by
  obtain ⟨h1, h2⟩ := h
  refine ⟨h1, ?_⟩
  rcases h2 with h2 | ⟨g, cap, cur, hv, hg, hh, r⟩
  · exact .inl h2
  · exact .inr ⟨g, cap, cur, hv, hg, (hb.block g (Blk.lt hh)).trans hh, r⟩
/-- append of one element that has just been laid. -/
theorem wpList_append1 {P : Program} {ops : Array Oper} {rest : List Oper} {o : Oper} {a : Act} {Q : Exit → Act → World → Prop} (w0 : World) (news : List Value) (s x : Operand) (t : TypeId)
    (base : Nat) (e : TypeId) (z : Value) (size bytes : Nat) (v : Value) (n : Nat) (xs : List Value) (hgd : o.guard = none)
    (ho : o.op = .call { callee := .builtin .append, args := #[s, x], argTypes := #[t, t] })
    (ht : P.underlying t = some (.slice e)) (hinfo : (P.info? e).map (fun i => (i.zero, i.size, i.bytes)) = some (some z, size, bytes)) (hzs : z.cells.size = size) (hsz : 0 < size) (hby : bytes ≤ 4096)
    (hs : a.eval s = v) (hown : w0.ownsRow base e size v n xs) (hx : a.eval x = .slice (some ⟨w0.heap.size, 0, none⟩) 1 1) (hl : news.length = size) (h1 : ∀ u ∈ news, u.oneCell' = true)
    (hn : n ≤ 1000000) (hbase : base ≤ w0.heap.size)
    (h : ∀ v' w', w'.ownsRow base e size v' (n + 1) (xs ++ news) → Below base w0 w' → (w0.alloc (.cells news.toArray e)).grownBy w' v.ownBlock → wpList P ops Q rest (a.put o.dst v') w') :
    wpList P ops Q (o :: rest) a (w0.alloc (.cells news.toArray e)) := by
  obtain ⟨i0, hi, hz0, hz1, hz2⟩ := info_parts hinfo
  refine wpList_append_own _ hgd s x t ho base e i0 z size bytes ht hi hz0 hz1 hz2 hzs hsz v n xs hs (hown.alloc _) ⟨w0.heap.size, 0, none⟩ 1 1 news hx (by rw [hl, Nat.one_mul]) ?_ h1 (by unfold maxLen; omega) ?_ (by simp; omega) ?_
  · intro j u hu
    have hb := Blk.cell (Blk.new w0 e news.toArray _ rfl) j
    have ha : (⟨w0.heap.size, 0, none⟩ : Addr).add j = ⟨w0.heap.size, j, none⟩ := by
      unfold Addr.add
      split
      · rename_i h; subst h; rfl
      · simp
    rw [ha, hb]
    simpa using hu
  · have : (n + 1) * bytes ≤ 1000001 * 4096 := Nat.mul_le_mul (by omega) hby
    omega
  · intro v' w' hown' hgrow _
    refine h v' w' hown' ?_ hgrow
    refine ((Below.refl _ _).alloc hbase _).grown hgrow (by simp; omega) ?_
    intro k hk
    exact (hown.lt k hk).1

/-- Cells of a list whose elements have sz cells each. -/
theorem flat_at {α : Type} {f : α → List Value} {sz : Nat} (hf : ∀ x, (f x).length = sz) : ∀ (l : List α) (i j : Nat) (x : α), l[i]? = some x → j < sz →
    (l.flatMap f)[i * sz + j]? = (f x)[j]?
  | [], i, j, x, h, _ => by simp at h
  | y :: l, 0, j, x, h, hj => by
    simp only [List.getElem?_cons_zero, Option.some.injEq] at h
    subst h
    rw [List.flatMap_cons, Nat.zero_mul, Nat.zero_add, List.getElem?_append_left (by rw [hf]; exact hj)]
  | y :: l, i + 1, j, x, h, hj => by
    simp only [List.getElem?_cons_succ] at h
    rw [List.flatMap_cons, List.getElem?_append_right (by rw [hf, Nat.succ_mul]; omega), hf]
    have : (i + 1) * sz + j - sz = i * sz + j := by rw [Nat.succ_mul]; omega
    rw [this]
    exact flat_at hf l i j x h hj

end Go.Proofs.YtmbopkcmbiommaaGreatDoor
