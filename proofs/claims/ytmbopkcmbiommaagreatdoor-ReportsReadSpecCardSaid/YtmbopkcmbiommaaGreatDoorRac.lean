/- Plain: what post.Check says of a world; what Print and Read give. -/
import Derived.Test.YtmbopkcmbiommaaGreatDoorRab
import Derived.Test.YtmbopkcmbiommaaGreatDoorRows
import Derived.WalkKit
import Derived.WalkSpells
import Derived.WalkLawsBesides
import Derived.Lib.Hide
import Derived.Deep.QuietTactic
import Derived.BigQuiet
set_option maxRecDepth 1000000
set_option maxHeartbeats 16000000
namespace Go.Proofs.YtmbopkcmbiommaaGreatDoor
open Go
def btw (n lo hi : Int) : Bool := decide (lo ≤ n) && decide (n ≤ hi)
def stopsB (offices : Int) (l : List Int) : Bool := l.all (fun o => btw o 0 (offices - 1)) && decide l.Nodup
def Lin.right (x : Lin) (offices : Int) : Bool :=
  (btw (x.offs.length : Int) 2 9 && decide (x.legs.length + 1 = x.offs.length)) && ((btw x.cls 1 255 && btw x.room 1 64) && (stopsB offices x.offs && x.legs.all (fun n => btw n 1 100000)))
def ruleB (r : Rl) : Bool := decide (0 ≤ r.first ∧ r.first < r.until_ ∧ r.until_ ≤ 2097152 ∧ 1 ≤ r.every ∧ r.every ≤ 2097152)
def gapsB : Int → List Gp → Bool
  | _, [] => true
  | b, g :: l => decide (b < g.from_ ∧ g.from_ < g.until_ ∧ g.until_ ≤ 2097152) && gapsB g.until_ l
def calE (rules : List Rl) (off : List Gp) : Int :=
  if 16 < rules.length ∨ 64 < off.length then 2 else if rules.all ruleB = true then (if gapsB (-1) off = true then 0 else 190) else 190
def calsE : List Lin → Int
  | [] => 0
  | x :: l => if calE x.rules x.off = 0 then calsE l else calE x.rules x.off
def tableE (offices : Int) (l : List Lin) : Int :=
  if 64 < l.length then 2 else if btw offices 0 24 = true then (if l.all (fun x => x.right offices) = true then calsE l else 200) else 200
def priceB (n : Int) : Bool := btw n 0 1048576
def tiersB : Int → List Tie → Bool
  | _, [] => true
  | b, x :: l => (decide (b < x.from_) && priceB x.extra) && tiersB x.from_ l
def tariffE (base leg : List Int) (tiers : List Tie) : Int :=
  if (decide (base.length = leg.length) && (decide (1 ≤ base.length) && (decide (base.length ≤ 8) && (decide (tiers.length ≤ 16) && (base.all priceB && (leg.all priceB && tiersB 0 tiers)))))) = true then 0 else 210
def agB (offices : Int) : Int → List Int → Bool
  | _, [] => true
  | last, k :: l => (decide (last < k) && decide (k < offices)) && agB offices k l
def blw (x n : Int) : Bool := decide (0 ≤ x) && decide (x < n)
def Odr.right (o : Odr) (offices people classes : Int) : Bool :=
  blw o.from_ offices && (blw o.dest offices && (blw o.person people && (blw o.cls classes && (blw o.after o.by_ && (blw o.by_ 2097152 && (blw (o.crowd - 1) 64 && (blw o.pay 1099511627777 && (blw o.els 3 && (decide (o.from_ ≠ o.dest) && agB offices (-1) o.ag)))))))))
def idB (n : Int) : Bool := btw n 0 1048576
def spanB (a b : Int) : Bool := decide (0 ≤ a ∧ a < b ∧ b ≤ 2097152)
def Ent.fits (x : Ent) : Bool := if x.kind = 1 then blw x.b 24 else if x.kind = 2 then decide (x.a ≠ x.b) && idB x.b else decide ((x.kind = 3 ∨ x.kind = 4) ∧ x.b = 0)
def Ent.right (x : Ent) : Bool := idB x.no && (idB x.a && (x.fits && (spanB x.from_ x.until_ && spanB x.known x.gone)))
def entsB : Int → List Ent → Bool
  | _, [] => true
  | last, x :: l => (x.right && decide (last < x.no)) && entsB x.no l
def entsE (l : List Ent) : Int := if 1024 < l.length then 2 else if entsB (-1) l = true then 0 else 330
def slpB (x : Slp) : Bool := decide (0 ≤ x.run) && decide (0 ≤ x.leg)
def slpsB : Option Slp → List Slp → Bool
  | _, [] => true
  | none, x :: l => slpB x && slpsB (some x) l
  | some y, x :: l => (slpB x && decide (y.run < x.run ∨ y.run = x.run ∧ y.leg < x.leg)) && slpsB (some x) l
def secretB (n : Int) : Bool := decide (1 ≤ n ∧ n < 1073741789)
def postE (w : Wld) : Int :=
  if tableE w.offs w.lines = 0 then
    if tariffE w.base w.leg w.tiers = 0 then
      if btw w.people 0 1024 = true then
        if w.orders.length ≤ 64 ∧ w.orders.all (fun o => o.right w.offs w.people (w.base.length : Int)) = true then
          if entsE w.ents = 0 then
            if (w.secs.length : Int) = w.offs ∧ w.secs.all secretB = true then
              if slpsB none w.faults = true then 0 else 530
            else 530
          else entsE w.ents
        else 220
      else 530
    else tariffE w.base w.leg w.tiers
  else tableE w.offs w.lines
theorem calE_ne (r : List Rl) (o : List Gp) : calE r o ≠ 590 := by
  unfold calE
  repeat' split
  all_goals decide
theorem calsE_ne : ∀ l : List Lin, calsE l ≠ 590
  | [] => by decide
  | x :: l => by
    unfold calsE
    split
    · exact calsE_ne l
    · exact calE_ne _ _
theorem postE_ne (w : Wld) : postE w ≠ 590 := by
  unfold postE
  have h1 : tableE w.offs w.lines ≠ 590 := by
    unfold tableE
    repeat' split
    all_goals first | exact calsE_ne _ | decide
  have h2 : tariffE w.base w.leg w.tiers ≠ 590 := by
    unfold tariffE
    split <;> decide
  have h3 : entsE w.ents ≠ 590 := by
    unfold entsE
    repeat' split
    all_goals decide
  repeat' split
  all_goals first | assumption | decide
theorem post_fine {w : Wld} (h : postE w = 0) (hs : ∀ d ∈ w.seed, d < 256) (hl : w.seed.length = 32) : w.fine := by
  unfold postE at h
  split at h
  · rename_i h1
    split at h
    · rename_i h2
      refine ⟨?_, fun x hx => ?_, hs, hl⟩
      · unfold tariffE at h2
        split at h2
        · rename_i h3
          rw [Bool.and_eq_true] at h3
          exact of_decide_eq_true h3.1
        · cases h2
      · unfold tableE at h1
        split at h1
        · cases h1
        · split at h1
          · split at h1
            · rename_i h3
              have h4 := List.all_eq_true.1 h3 x hx
              unfold Lin.right at h4
              simp only [Bool.and_eq_true] at h4
              exact (of_decide_eq_true h4.1.2).symm
            · cases h1
          · cases h1
    · rename_i h2; exact absurd h h2
  · rename_i h1; exact absurd h h1
def printV (w : Wld) : By × Int := if postE w = 0 then (if w.okW = true then (w.text, 0) else ([], 590)) else ([], postE w)
def readV (src : By) : Wld × Nat × Int := match foldW 0 (zeroW, 0) (linesC src) with
  | .inr n => (zeroW, n, 590)
  | .inl (w, k) => if k = 0 then (zeroW, 1, 590) else if postE w = 0 then (w, 0, 0) else (zeroW, 0, postE w)
theorem read_print {w : Wld} {t : By} (hs : ∀ d ∈ w.seed, d < 256) (hl : w.seed.length = 32) (h : printV w = (t, 0)) : readV t = (w, 0, 0) := by
  unfold printV at h
  split at h
  · rename_i hp
    split at h
    · rename_i ho
      injection h with h h2
      subst h
      obtain ⟨k, hk, e⟩ := fold_text (post_fine hp hs hl) ho
      unfold readV
      rw [e]
      simp only
      rw [if_neg (by omega), if_pos hp]
    · injection h with h h2; cases h2
  · rename_i hp
    injection h with h h2
    exact absurd h2 hp
theorem print_read {w : Wld} {src : By} {n : Nat} (h : readV src = (w, n, 0)) : n = 0 ∧ printV w = (src, 0) ∧ postE w = 0 ∧ (∀ d ∈ w.seed, d < 256) ∧ w.seed.length = 32 := by
  unfold readV at h
  split at h
  · injection h with h1 h2; injection h2 with h2 h3; cases h3
  · rename_i w' k e
    split at h
    · injection h with h1 h2; injection h2 with h2 h3; cases h3
    · rename_i hk
      split at h
      · rename_i hp
        injection h with h1 h2
        injection h2 with h2 h3
        subst h1
        obtain ⟨e1, e2, e3⟩ := text_fold e hk
        refine ⟨h2.symm, ?_, hp, e3.seed, e3.s32⟩
        unfold printV
        rw [if_pos hp, if_pos e2, e1]
      · rename_i hp
        injection h with h1 h2
        injection h2 with h2 h3
        exact absurd h3 hp
theorem read_no {src : By} {w : Wld} {n : Nat} {e : Int} (h : readV src = (w, n, e)) (he : e ≠ 0) : w = zeroW ∧ (e = 590 ↔ 0 < n) := by
  unfold readV at h
  split at h
  · rename_i k hk
    injection h with h1 h2
    injection h2 with h2 h3
    subst h2
    refine ⟨h1.symm, fun _ => ?_, fun _ => h3.symm⟩
    have : ∀ (ts : List By) (m : Nat) (st : Wld × Nat) (k : Nat), foldW m st ts = .inr k → 0 < k := by
      intro ts
      induction ts with
      | nil => intro m st k h; cases h
      | cons t ts ih =>
        intro m st k h
        have h' : (match stepW st t with | some st' => foldW (m + 1) st' ts | none => .inr (m + 1)) = .inr k := h
        cases hs : stepW st t with
        | none => rw [hs] at h'; injection h' with h'; omega
        | some s => rw [hs] at h'; exact ih _ _ _ h'
    exact this _ _ _ _ hk
  · rename_i w' k hk
    split at h
    · injection h with h1 h2
      injection h2 with h2 h3
      exact ⟨h1.symm, fun _ => by omega, fun _ => h3.symm⟩
    · split at h
      · injection h with h1 h2
        injection h2 with h2 h3
        exact absurd h3.symm he
      · injection h with h1 h2
        injection h2 with h2 h3
        exact ⟨h1.symm, fun h4 => absurd (h3.trans h4) (postE_ne _), fun h4 => by omega⟩
theorem print_text {w : Wld} {t : By} (h : printV w = (t, 0)) : t = w.text ∧ postE w = 0 ∧ w.okW = true := by
  unfold printV at h
  split at h
  · rename_i hp
    split at h
    · rename_i ho
      injection h with h h2
      exact ⟨h.symm, hp, ho⟩
    · injection h with h h2; cases h2
  · rename_i hp
    injection h with h h2
    exact absurd h2 hp
theorem linesC_flatten : ∀ {l : List By}, (∀ t ∈ l, ∃ a, t = a ++ [10] ∧ ∀ x ∈ a, x ≠ 10) → linesC l.flatten = l
  | [], _ => rfl
  | t :: l, h => by
    obtain ⟨a, e, ha⟩ := h t (List.mem_cons_self ..)
    rw [List.flatten_cons, e, List.append_assoc, List.singleton_append, linesC_row ha, linesC_flatten (fun x hx => h x (List.mem_cons_of_mem _ hx))]
end Go.Proofs.YtmbopkcmbiommaaGreatDoor
namespace Go.Proofs.YtmbopkcmbiommaaGreatDoor
open Go.RowKit
def Rd (w : World) (B sz : Nat) (A : Option Addr) (n : Nat) (xs : List Value) : Prop :=
  xs.length = n * sz ∧ (0 < n → ∃ b off, A = some ⟨b, off, none⟩ ∧ b < B ∧ ∀ j u, xs[j]? = some u → w.cell? ⟨b, off + j, none⟩ = some u)
section
variable {w w' : World} {B B' sz n : Nat} {A : Option Addr} {xs : List Value}
theorem Rd.nil_ : Rd w B sz A 0 [] := ⟨by simp, fun h => absurd h (by omega)⟩
theorem Rd.keep (h : Rd w B sz A n xs) (hk : ∀ p : Addr, p.block < B → w'.cell? p = w.cell? p) : Rd w' B sz A n xs :=
  ⟨h.1, fun hn => by
    obtain ⟨b, off, e, hb, hc⟩ := h.2 hn
    exact ⟨b, off, e, hb, fun j u hu => (hk _ hb).trans (hc j u hu)⟩⟩
theorem Rd.more (h : Rd w B sz A n xs) (hB : B ≤ B') : Rd w B' sz A n xs :=
  ⟨h.1, fun hn => by
    obtain ⟨b, off, e, hb, hc⟩ := h.2 hn
    exact ⟨b, off, e, by omega, hc⟩⟩
theorem Rd.below (h : Rd w B sz A n xs) (hb : Below B w w') : Rd w' B sz A n xs := h.keep fun _ hp => hb.cell hp
theorem Rd.alloc (h : Rd w B sz A n xs) (hB : B ≤ w.heap.size) (o : Obj) : Rd (w.alloc o) B sz A n xs :=
  h.below ((Below.refl _ _).alloc hB o)
end
def Blk (w : World) (g : Nat) (t : TypeId) (cs : Array Value) : Prop := w.heap[g]? = some (.cells cs t (0, 0))
section
variable {w w' : World} {g : Nat} {t : TypeId} {cs : Array Value}
theorem Blk.lt (h : Blk w g t cs) : g < w.heap.size := by
  rcases Nat.lt_or_ge g w.heap.size with hlt | hge
  · exact hlt
  · unfold Blk at h; rw [Array.getElem?_eq_none hge] at h; cases h
theorem Blk.cell (h : Blk w g t cs) (i : Nat) : w.cell? ⟨g, i, none⟩ = cs[i]? := by
  unfold Blk at h; simp [World.cell?, h]
theorem Blk.frozen (h : Blk w g t cs) (i : Nat) : w.frozen? ⟨g, i, none⟩ = false := by
  unfold Blk at h; simp [World.frozen?, h]
theorem Blk.new (w : World) (t : TypeId) (cs : Array Value) (b : Nat) (hb : b = w.heap.size) : Blk (w.alloc (.cells cs t)) b t cs := by
  subst hb
  show (w.heap.push _)[w.heap.size]? = _
  simp
theorem Blk.alloc (h : Blk w g t cs) (o : Obj) : Blk (w.alloc o) g t cs := (Below.heap_alloc w o g h.lt).trans h
theorem Blk.below {B : Nat} (h : Blk w g t cs) (hb : Below B w w') (hg : g < B) : Blk w' g t cs := (hb.block g hg).trans h
theorem Blk.far (h : Blk w g t cs) {p : Addr} (hp : g ≠ p.block) (u : Value) : Blk (w.setCell p u) g t cs := (Below.heap_setCell w p u g hp).trans h
theorem Blk.set_ (h : Blk w g t cs) (i : Nat) (u : Value) : Blk (w.setCell ⟨g, i, none⟩ u) g t (cs.setIfInBounds i u) := by
  unfold Blk at h ⊢
  simp [World.setCell, Array.getElem?_modify, h]
end
theorem Rd.new (w : World) (cs : List Value) (t : TypeId) (sz n b : Nat) (hb : b = w.heap.size) (h : cs.length = n * sz) :
    Rd (w.alloc (.cells cs.toArray t)) (w.alloc (.cells cs.toArray t)).heap.size sz (some ⟨b, 0, none⟩) n cs := by
  subst hb
  exact ⟨h, fun _ => ⟨w.heap.size, 0, rfl, by simp, fun j u hu => by
    rw [Nat.zero_add, (Blk.new w t cs.toArray _ rfl).cell j]; simpa using hu⟩⟩
theorem bRefl (w : World) : Below w.heap.size w w := Below.refl _ _
theorem bAl {a w : World} (h : Below a.heap.size a w) (o : Obj) : Below a.heap.size a (w.alloc o) := h.alloc h.size o
theorem bCall {a w w' : World} (h : Below a.heap.size a w) (k : Below w.heap.size w w') : Below a.heap.size a w' := h.trans (k.mono h.size)
theorem bSet {a w : World} (h : Below a.heap.size a w) {p : Addr} (hp : a.heap.size ≤ p.block) (u : Value) : Below a.heap.size a (w.setCell p u) := h.setCell hp u
theorem bDr {a w : World} (h : Below a.heap.size a w) : Below a.heap.size a w.drew := h.drew
def Ret (v : Value) (w : World) (r : Ending) (w' : World) : Prop := r = .returned v ∧ Below w.heap.size w w'
def Same (v : Value) (w : World) (r : Ending) (w' : World) : Prop := r = .returned v ∧ w = w'
def Pan (T : TypeId) (e : Int) (w : World) (r : Ending) (w' : World) : Prop :=
  r = .panicked [{ v := .iface T (.int .i64 e), recovered := false }] ∧ Below w.heap.size w w'
theorem ret_bool {a b : Bool} (h : a = b) : Ending.returned (.bool a) = .returned (.bool b) := by rw [h]
theorem ret_int {k : IntKind} {a b : Int} (h : a = b) : Ending.returned (.int k a) = .returned (.int k b) := by rw [h]
structure Later where
  blocks : Array Obj
  drawn : Nat
instance later_there : Inhabited Later := ⟨⟨#[], 0⟩⟩
def later (w : World) (x : Later) : World := { w with heap := w.heap ++ x.blocks, drawn := x.drawn }
theorem later_below (w : World) (x : Later) : Below w.heap.size w (later w x) :=
  ⟨rfl, rfl, rfl, by simp [later], fun k hk => by simp [later, Array.getElem?_append, hk]⟩
theorem cell_later (w : World) (x : Later) (p : Addr) (h : p.block < w.heap.size) : (later w x).cell? p = w.cell? p := (later_below w x).cell h
theorem frozen_later (w : World) (x : Later) (p : Addr) (h : p.block < w.heap.size) : (later w x).frozen? p = w.frozen? p := (later_below w x).frozen h
theorem block_later (w : World) (x : Later) (b : Nat) (h : b < w.heap.size) : (later w x).heap[b]? = w.heap[b]? := (later_below w x).block b h
attribute [go_sem] cell_later frozen_later block_later
theorem Rd.later {w : World} {B sz n : Nat} {A : Option Addr} {xs : List Value} (h : Rd w B sz A n xs) (hB : B ≤ w.heap.size) (x : Later) : Rd (later w x) B sz A n xs := h.below ((later_below w x).mono hB)
def ints (l : List Int) : List Value := l.map (Value.int .i64)
theorem ints_length (l : List Int) : (ints l).length = l.length := by simp [ints]
theorem ints_at {l : List Int} {k : Nat} {x : Int} (h : l[k]? = some x) : (ints l)[k]? = some (.int .i64 x) := by simp [ints, h]
theorem Int_at {w : World} {B n k : Nat} {A : Option Addr} {l : List Int} {x : Int} (h : Rd w B 1 A n (ints l)) (hn : k < n) (hx : l[k]? = some x) :
    ∃ b off, A = some ⟨b, off, none⟩ ∧ b < B ∧ w.cell? ⟨b, off + k, none⟩ = some (.int .i64 x) := by
  obtain ⟨b, off, hA, hb, hc⟩ := h.2 (by omega)
  exact ⟨b, off, hA, hb, hc _ _ (ints_at hx)⟩
def RetIL (l : List Int) (e : Int) (w : World) (r : Ending) (w' : World) : Prop :=
  ∃ A c, r = .returned (.tuple #[.slice A l.length c, .int .i64 e]) ∧ Below w.heap.size w w' ∧ Rd w' w'.heap.size 1 A l.length (ints l)
theorem Rd.of_own {w : World} {base : Nat} {e : TypeId} {sz n : Nat} {v : Value} {xs : List Value} (h : w.ownsRow base e sz v n xs) : ∃ A c, v = .slice A n c ∧ Rd w w.heap.size sz A n xs := by
  rcases h.2 with ⟨rfl, rfl⟩ | ⟨g, cap, cur, rfl, _, hg, hnc, _, hsz, htk⟩
  · exact ⟨none, 0, rfl, h.1, fun hn => absurd hn (by omega)⟩
  · refine ⟨_, _, rfl, h.1, fun _ => ⟨g, 0, rfl, Blk.lt hg, fun j u hu => ?_⟩⟩
    rw [Nat.zero_add, Blk.cell hg]
    rw [← htk, List.getElem?_take] at hu
    split at hu
    · simpa using hu
    · cases hu
theorem ownsRow_keep {w w' : World} {base : Nat} {e : TypeId} {sz n : Nat} {v : Value} {xs : List Value} (h : w.ownsRow base e sz v n xs) (hb : Below w.heap.size w w') : w'.ownsRow base e sz v n xs := by
  obtain ⟨h1, h2⟩ := h
  refine ⟨h1, ?_⟩
  rcases h2 with h2 | ⟨g, cap, cur, hv, hg, hh, r⟩
  · exact .inl h2
  · exact .inr ⟨g, cap, cur, hv, hg, (hb.block g (Blk.lt hh)).trans hh, r⟩
end Go.Proofs.YtmbopkcmbiommaaGreatDoor
