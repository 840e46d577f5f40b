/-
  Words for memory that all walks of this seat use: a slice that reads as a list of cells, a block that is known whole; posts behind definitions.
-/
import Derived.Test.YtoeobcmmafncmaaDoorRows
import Derived.WalkKit
import Derived.WalkSpells
import Derived.WalkLawsBesides
import Derived.Lib.Hide
import Derived.Deep.QuietTactic
import Derived.BigQuiet
import Derived.ProofKit
import Derived.OpenShut
import Derived.ShutString
import Derived.ChangeOld
import Derived.Below
import Derived.Deep.Slices
import Derived.Deep.Fields
namespace Go.Proofs.YtoeobcmmafncmaaDoor
open Go.RowKit

/-- The slice value with address A and n elements of sz cells holds the cells xs, in a block below B. -/
def Rd (w : World) (B sz : Nat) (A : Option Addr) (n : Nat) (xs : List Value) : Prop :=
  xs.length = n * sz ∧ (0 < n → ∃ b off, A = some ⟨b, off, none⟩ ∧ b < B ∧ ∀ j u, xs[j]? = some u → w.cell? ⟨b, off + j, none⟩ = some u)

section
variable {w w' : World} {B B' sz n : Nat} {A : Option Addr} {xs : List Value}
theorem Rd.nil_ : Rd w B sz A 0 [] := ⟨by simp, fun h => absurd h (by omega)⟩
theorem Rd.keep (h : Rd w B sz A n xs) (hk : ∀ p : Addr, p.block < B → w'.cell? p = w.cell? p) : Rd w' B sz A n xs :=
  ⟨h.1, fun hn => by
    obtain ⟨b, off, e, hb, hc⟩ := h.2 hn
    exact ⟨b, off, e, hb, fun j u hu => (hk _ hb).trans (hc j u hu)⟩⟩
theorem Rd.more (h : Rd w B sz A n xs) (hB : B ≤ B') : Rd w B' sz A n xs :=
  ⟨h.1, fun hn => by
    obtain ⟨b, off, e, hb, hc⟩ := h.2 hn
    exact ⟨b, off, e, by omega, hc⟩⟩
theorem Rd.below (h : Rd w B sz A n xs) (hb : Below B w w') : Rd w' B sz A n xs := h.keep fun _ hp => hb.cell hp
theorem Rd.alloc (h : Rd w B sz A n xs) (hB : B ≤ w.heap.size) (o : Obj) : Rd (w.alloc o) B sz A n xs :=
  h.below ((Below.refl _ _).alloc hB o)
end

/-- Block g is just the cells cs of element type t. -/
def Blk (w : World) (g : Nat) (t : TypeId) (cs : Array Value) : Prop := w.heap[g]? = some (.cells cs t (0, 0))

section
variable {w w' : World} {g : Nat} {t : TypeId} {cs : Array Value}
theorem Blk.lt (h : Blk w g t cs) : g < w.heap.size := by
  rcases Nat.lt_or_ge g w.heap.size with hlt | hge
  · exact hlt
  · unfold Blk at h; rw [Array.getElem?_eq_none hge] at h; cases h
theorem Blk.cell (h : Blk w g t cs) (i : Nat) : w.cell? ⟨g, i, none⟩ = cs[i]? := by
  unfold Blk at h; simp [World.cell?, h]
theorem Blk.frozen (h : Blk w g t cs) (i : Nat) : w.frozen? ⟨g, i, none⟩ = false := by
  unfold Blk at h; simp [World.frozen?, h]
theorem Blk.new (w : World) (t : TypeId) (cs : Array Value) (b : Nat) (hb : b = w.heap.size) : Blk (w.alloc (.cells cs t)) b t cs := by
  subst hb
  show (w.heap.push _)[w.heap.size]? = _
  simp
theorem Blk.alloc (h : Blk w g t cs) (o : Obj) : Blk (w.alloc o) g t cs := (Below.heap_alloc w o g h.lt).trans h
theorem Blk.below {B : Nat} (h : Blk w g t cs) (hb : Below B w w') (hg : g < B) : Blk w' g t cs := (hb.block g hg).trans h
theorem Blk.far (h : Blk w g t cs) {p : Addr} (hp : g ≠ p.block) (u : Value) : Blk (w.setCell p u) g t cs := (Below.heap_setCell w p u g hp).trans h
theorem Blk.set_ (h : Blk w g t cs) (i : Nat) (u : Value) : Blk (w.setCell ⟨g, i, none⟩ u) g t (cs.setIfInBounds i u) := by
  unfold Blk at h ⊢
  simp [World.setCell, Array.getElem?_modify, h]
end

/-- A slice that has just been built of cells. -/
theorem Rd.new (w : World) (cs : List Value) (t : TypeId) (sz n b : Nat) (hb : b = w.heap.size) (h : cs.length = n * sz) :
    Rd (w.alloc (.cells cs.toArray t)) (w.alloc (.cells cs.toArray t)).heap.size sz (some ⟨b, 0, none⟩) n cs := by
  subst hb
  exact ⟨h, fun _ => ⟨w.heap.size, 0, rfl, by simp, fun j u hu => by
    rw [Nat.zero_add, (Blk.new w t cs.toArray _ rfl).cell j]; simpa using hu⟩⟩

/-- Below, over new blocks, stores into new blocks and further calls: the bound is the elder world's own size. -/
theorem bRefl (w : World) : Below w.heap.size w w := Below.refl _ _
theorem bAl {a w : World} (h : Below a.heap.size a w) (o : Obj) : Below a.heap.size a (w.alloc o) := h.alloc h.size o
theorem bCall {a w w' : World} (h : Below a.heap.size a w) (k : Below w.heap.size w w') : Below a.heap.size a w' := h.trans (k.mono h.size)
theorem bSet {a w : World} (h : Below a.heap.size a w) {p : Addr} (hp : a.heap.size ≤ p.block) (u : Value) : Below a.heap.size a (w.setCell p u) := h.setCell hp u

theorem bDrN {a w : World} (h : Below a.heap.size a w) (n : Nat) : Below a.heap.size a (w.drewN n) := ⟨h.os, h.tape, h.output, h.size, h.block⟩
theorem bDr {a w : World} (h : Below a.heap.size a w) : Below a.heap.size a w.drew := h.drew

/-- Posts, behind definitions. -/
def Ret (v : Value) (w : World) (r : Ending) (w' : World) : Prop := r = .returned v ∧ Below w.heap.size w w'
def Same (v : Value) (w : World) (r : Ending) (w' : World) : Prop := r = .returned v ∧ w = w'
def Pan (T : TypeId) (e : Int) (w : World) (r : Ending) (w' : World) : Prop :=
  r = .panicked [{ v := .iface T (.int .i64 e), recovered := false }] ∧ Below w.heap.size w w'

theorem ret_bool {a b : Bool} (h : a = b) : Ending.returned (.bool a) = .returned (.bool b) := by rw [h]
theorem ret_int {k : IntKind} {a b : Int} (h : a = b) : Ending.returned (.int k a) = .returned (.int k b) := by rw [h]

/-- A world that is as w was, but for new blocks and draws: what a region comes to whose operations only read, and whose callees only make memory. -/
structure Later where
  blocks : Array Obj
  drawn : Nat
instance later_there : Inhabited Later := ⟨⟨#[], 0⟩⟩
def later (w : World) (x : Later) : World := { w with heap := w.heap ++ x.blocks, drawn := x.drawn }
theorem later_below (w : World) (x : Later) : Below w.heap.size w (later w x) :=
  ⟨rfl, rfl, rfl, by simp [later], fun k hk => by simp [later, Array.getElem?_append, hk]⟩
theorem later_of {w w' : World} (h : Below w.heap.size w w') : ∃ x : Later, w' = later w x := by
  refine ⟨⟨w'.heap.extract w.heap.size, w'.drawn⟩, ?_⟩
  have he : w'.heap = w.heap ++ w'.heap.extract w.heap.size := by
    apply Array.ext_getElem?
    intro i
    rw [Array.getElem?_append]
    split
    · rename_i hi; exact h.block i hi
    · rename_i hi
      have hs := h.size
      rw [Array.getElem?_extract]
      by_cases hl : i < w'.heap.size
      · rw [if_pos (by omega)]
        congr 1
        omega
      · rw [if_neg (by omega), Array.getElem?_eq_none (by omega)]
  cases w' with
  | mk heap tape drawn os output =>
    have h1 := h.os
    have h2 := h.tape
    have h3 := h.output
    simp only at h1 h2 h3 he
    subst h1; subst h2; subst h3
    simp only [later, World.mk.injEq, and_true]
    exact he
theorem cell_later (w : World) (x : Later) (p : Addr) (h : p.block < w.heap.size) : (later w x).cell? p = w.cell? p := (later_below w x).cell h
theorem frozen_later (w : World) (x : Later) (p : Addr) (h : p.block < w.heap.size) : (later w x).frozen? p = w.frozen? p := (later_below w x).frozen h
theorem block_later (w : World) (x : Later) (b : Nat) (h : b < w.heap.size) : (later w x).heap[b]? = w.heap[b]? := (later_below w x).block b h
attribute [go_sem] cell_later frozen_later block_later
theorem Rd.later {w : World} {B sz n : Nat} {A : Option Addr} {xs : List Value} (h : Rd w B sz A n xs) (hB : B ≤ w.heap.size) (x : Later) : Rd (later w x) B sz A n xs := h.below ((later_below w x).mono hB)
/-- One walk, in the order of the text, serves every order. -/
theorem wp_region_later_lit {P : Program} {id : Nat} {Q : Exit → Act → World → Prop} {a : Act} {w : World} {l : List Oper} (w0 : World) (h0 : Below w0.heap.size w0 w) (hm : P.follows .mixedOrders = true) (hB : Region.lexB .any l.toArray = true)
    (h : wpQuiet P l.toArray (fun w' => ∃ x : Later, w' = Proofs.YtoeobcmmafncmaaDoor.later w0 x) (fun a' => ∀ w', (∃ x : Later, w' = Proofs.YtoeobcmmafncmaaDoor.later w0 x) → Q .normal a' w') l a) : (Code.region id l.toArray true).wp P Q a w :=
  wp_region_quiet (C := fun w' => ∃ x : Later, w' = Proofs.YtoeobcmmafncmaaDoor.later w0 x) hm hB (later_of (Below.drew h0)) (by simpa using h)
theorem later_ret {P : Program} {f : FuncId} {args : Array Value} {v : Value} {w : World} {x : Later} (h : Calls P f args (later w x) (Ret v (later w x))) :
    Calls P f args (later w x) fun e w'' => e = .returned v ∧ ∃ y : Later, w'' = later w y :=
  h.mono fun _ _ ⟨he, hb⟩ => ⟨he, later_of (bCall (later_below w x) hb)⟩
theorem later_same {P : Program} {f : FuncId} {args : Array Value} {v : Value} {w : World} {x : Later} (h : Calls P f args (later w x) (Same v (later w x))) :
    Calls P f args (later w x) fun e w'' => e = .returned v ∧ ∃ y : Later, w'' = later w y :=
  h.mono fun _ _ ⟨he, hb⟩ => ⟨he, x, hb.symm⟩

theorem Rd.cut {w : World} {B sz n b off : Nat} {xs : List Value} (h : Rd w B sz (some ⟨b, off, none⟩) n xs) (k : Nat) (hk : k ≤ n) : Rd w B sz (some ⟨b, off + k * sz, none⟩) (n - k) (xs.drop (k * sz)) := by
  refine ⟨by rw [List.length_drop, h.1, Nat.sub_mul], fun hn => ?_⟩
  obtain ⟨b', off', e, hb, hc⟩ := h.2 (by omega)
  injection e with e
  injection e with e1 e2
  subst e1; subst e2
  refine ⟨_, _, rfl, hb, fun j u hu => ?_⟩
  rw [List.getElem?_drop] at hu
  have := hc _ u hu
  rwa [← Nat.add_assoc] at this

/-- Whole numbers in memory. -/
def ints (l : List Int) : List Value := l.map (Value.int .i64)
theorem ints_length (l : List Int) : (ints l).length = l.length := by simp [ints]
theorem ints_at {l : List Int} {k : Nat} {x : Int} (h : l[k]? = some x) : (ints l)[k]? = some (.int .i64 x) := by simp [ints, h]
theorem Int_at {w : World} {B n k : Nat} {A : Option Addr} {l : List Int} {x : Int} (h : Rd w B 1 A n (ints l)) (hn : k < n) (hx : l[k]? = some x) :
    ∃ b off, A = some ⟨b, off, none⟩ ∧ b < B ∧ w.cell? ⟨b, off + k, none⟩ = some (.int .i64 x) := by
  obtain ⟨b, off, hA, hb, hc⟩ := h.2 (by omega)
  exact ⟨b, off, hA, hb, hc _ _ (ints_at hx)⟩
/-- A function ends with a list of numbers and an error. -/
def RetIL (l : List Int) (e : Int) (w : World) (r : Ending) (w' : World) : Prop :=
  ∃ A c, r = .returned (.tuple #[.slice A l.length c, .int .i64 e]) ∧ Below w.heap.size w w' ∧ Rd w' w'.heap.size 1 A l.length (ints l)

/-- What a slice that the call owns reads as. -/
theorem Rd.of_own {w : World} {base : Nat} {e : TypeId} {sz n : Nat} {v : Value} {xs : List Value} (h : w.ownsRow base e sz v n xs) : ∃ A c, v = .slice A n c ∧ Rd w w.heap.size sz A n xs := by
  rcases h.2 with ⟨rfl, rfl⟩ | ⟨g, cap, cur, rfl, _, hg, hnc, _, hsz, htk⟩
  · exact ⟨none, 0, rfl, h.1, fun hn => absurd hn (by omega)⟩
  · refine ⟨_, _, rfl, h.1, fun _ => ⟨g, 0, rfl, Blk.lt hg, fun j u hu => ?_⟩⟩
    rw [Nat.zero_add, Blk.cell hg]
    rw [← htk, List.getElem?_take] at hu
    split at hu
    · simpa using hu
    · cases hu
theorem ownsRow_nil' (w : World) (base : Nat) (e : TypeId) (sz : Nat) : w.ownsRow base e sz (.slice none 0 0) 0 [] := World.ownsRow_nil w base e sz
theorem ownsRow_keep {w w' : World} {base : Nat} {e : TypeId} {sz n : Nat} {v : Value} {xs : List Value} (h : w.ownsRow base e sz v n xs) (hb : Below w.heap.size w w') : w'.ownsRow base e sz v n xs := by
  obtain ⟨h1, h2⟩ := h
  refine ⟨h1, ?_⟩
  rcases h2 with h2 | ⟨g, cap, cur, hv, hg, hh, r⟩
  · exact .inl h2
  · exact .inr ⟨g, cap, cur, hv, hg, (hb.block g (Blk.lt hh)).trans hh, r⟩
/-- append of one element that has just been laid. -/
theorem wpList_append1 {P : Program} {ops : Array Oper} {rest : List Oper} {o : Oper} {a : Act} {Q : Exit → Act → World → Prop} (w0 : World) (news : List Value) (s x : Operand) (t : TypeId)
    (base : Nat) (e : TypeId) (z : Value) (size bytes : Nat) (v : Value) (n : Nat) (xs : List Value) (hgd : o.guard = none)
    (ho : o.op = .call { callee := .builtin .append, args := #[s, x], argTypes := #[t, t] })
    (ht : P.underlying t = some (.slice e)) (hinfo : (P.info? e).map (fun i => (i.zero, i.size, i.bytes)) = some (some z, size, bytes)) (hzs : z.cells.size = size) (hsz : 0 < size) (hby : bytes ≤ 4096)
    (hs : a.eval s = v) (hown : w0.ownsRow base e size v n xs) (hx : a.eval x = .slice (some ⟨w0.heap.size, 0, none⟩) 1 1) (hl : news.length = size) (h1 : ∀ u ∈ news, u.oneCell' = true)
    (hn : n ≤ 1000000) (hbase : base ≤ w0.heap.size)
    (h : ∀ v' w', w'.ownsRow base e size v' (n + 1) (xs ++ news) → Below base w0 w' → (w0.alloc (.cells news.toArray e)).grownBy w' v.ownBlock → wpList P ops Q rest (a.put o.dst v') w') :
    wpList P ops Q (o :: rest) a (w0.alloc (.cells news.toArray e)) := by
  obtain ⟨i0, hi, hz0, hz1, hz2⟩ := info_parts hinfo
  refine wpList_append_own _ hgd s x t ho base e i0 z size bytes ht hi hz0 hz1 hz2 hzs hsz v n xs hs (hown.alloc _) ⟨w0.heap.size, 0, none⟩ 1 1 news hx (by rw [hl, Nat.one_mul]) ?_ h1 (by unfold maxLen; omega) ?_ (by simp; omega) ?_
  · intro j u hu
    have hb := Blk.cell (Blk.new w0 e news.toArray _ rfl) j
    have ha : (⟨w0.heap.size, 0, none⟩ : Addr).add j = ⟨w0.heap.size, j, none⟩ := by
      unfold Addr.add
      split
      · rename_i h; subst h; rfl
      · simp
    rw [ha, hb]
    simpa using hu
  · have : (n + 1) * bytes ≤ 1000001 * 4096 := Nat.mul_le_mul (by omega) hby
    omega
  · intro v' w' hown' hgrow _
    refine h v' w' hown' ?_ hgrow
    refine ((Below.refl _ _).alloc hbase _).grown hgrow (by simp; omega) ?_
    intro k hk
    exact (hown.lt k hk).1

/-- Cells of a list whose elements have sz cells each. -/
theorem flat_at {α : Type} {f : α → List Value} {sz : Nat} (hf : ∀ x, (f x).length = sz) : ∀ (l : List α) (i j : Nat) (x : α), l[i]? = some x → j < sz →
    (l.flatMap f)[i * sz + j]? = (f x)[j]?
  | [], i, j, x, h, _ => by simp at h
  | y :: l, 0, j, x, h, hj => by
    simp only [List.getElem?_cons_zero, Option.some.injEq] at h
    subst h
    rw [List.flatMap_cons, Nat.zero_mul, Nat.zero_add, List.getElem?_append_left (by rw [hf]; exact hj)]
  | y :: l, i + 1, j, x, h, hj => by
    simp only [List.getElem?_cons_succ] at h
    rw [List.flatMap_cons, List.getElem?_append_right (by rw [hf, Nat.succ_mul]; omega), hf]
    have : (i + 1) * sz + j - sz = i * sz + j := by rw [Nat.succ_mul]; omega
    rw [this]
    exact flat_at hf l i j x h hj

end Go.Proofs.YtoeobcmmafncmaaDoor

/-
  Arguments, opened: a slice of structs or numbers as a list.
-/
namespace Go.Proofs.YtoeobcmmafncmaaDoor
open Go.ChangeShapes Go.WideShapes Go.ChangeAt Go.RowKit Go.Deep

theorem own_knob : ownKnob Tryd.prog.godebug = none := by kernel_rfl
theorem laid_out : laidOutB Tryd.prog = true := by kernel_rfl

section
variable {H : Type} {enc : TypeId × Value → H} {P : Program} {w : World} {base : Nat} {spare : Nat → Bool} {held : Bool}
theorem flat_len {α : Type} {f : α → List Value} {sz : Nat} (hf : ∀ x, (f x).length = sz) : ∀ l : List α, (l.flatMap f).length = l.length * sz
  | [] => by simp
  | x :: l => by rw [List.flatMap_cons, List.length_append, hf, flat_len hf l, List.length_cons, Nat.succ_mul]; omega
theorem add_of_add (a : Addr) (i j : Nat) : (a.add i).add j = a.add (i + j) := by
  unfold Addr.add
  by_cases hi : i = 0 <;> by_cases hj : j = 0 <;> simp [hi, hj, Nat.add_assoc]
/-- A slice whose elements read as 'α', each in sz cells that are a function of it. -/
theorem open_slice_as {α : Type} {f : α → List Value} {Pr : α → Prop} {t e : TypeId} {sz fuel : Nat} {cs : List Value} {x : DataW H × List MemPlace} (ht : P.underlying t = some (.slice e)) (hsz : P.cellsOf e = sz) (hs : 0 < sz) (hf : ∀ x, (f x).length = sz)
    (hel : ∀ (n : Nat) (cs : List Value) (y : DataW H × List MemPlace), DataW.trod enc P w base spare held n e cs = some y → ∃ a, cs = f a ∧ Pr a) (h : DataW.trod enc P w base spare held fuel t cs = some x) :
    ∃ (A : Option Addr) (n c : Nat) (l : List α), cs = [.slice A n c] ∧ l.length = n ∧ n ≤ maxLen ∧ Rd w w.heap.size sz A n (l.flatMap f) ∧ ∀ y ∈ l, Pr y := by
  rcases open_slice ht h with ⟨rfl, _⟩ | ⟨a, len, cap, m, n, D, Pl, rfl, hb, hl, hm, hmm, rfl, hx⟩
  · exact ⟨none, 0, 0, [], rfl, rfl, Nat.zero_le _, Rd.nil_, fun y hy => by cases hy⟩
  · rw [hsz] at hx
    have hlm : len ≤ m := by rw [hmm]; split <;> omega
    rcases Nat.eq_zero_or_pos len with h0 | hpos
    · subst h0
      exact ⟨some a, 0, cap, [], rfl, rfl, Nat.zero_le _, ⟨by simp, fun h => absurd h (by omega)⟩, fun y hy => by cases hy⟩
    · obtain ⟨cs0, _, ht0⟩ := hx 0 (by omega)
      obtain ⟨a0, _, _⟩ := hel _ _ _ ht0
      haveI : Inhabited α := ⟨a0⟩
      obtain ⟨V, hV⟩ := choose_lt (α := α) (n := len) (p := fun i y => w.cells? base (a.add (i * sz)) sz = some (f y) ∧ Pr y) (fun i hi => by
        obtain ⟨cs', h1, h2⟩ := hx i (by omega)
        obtain ⟨y, rfl, hy⟩ := hel _ _ _ h2
        exact ⟨y, h1, hy⟩)
      refine ⟨some a, len, cap, (List.range len).map V, rfl, by simp, by omega, ⟨by rw [flat_len hf]; simp, fun _ => ?_⟩, ?_⟩
      · have hc0 : ∀ i j u, i < len → (f (V i))[j]? = some u → w.cell? (a.add (i * sz + j)) = some u := by
          intro i j u hi hu
          obtain ⟨_, hlen, hat⟩ := World.cells?_some (hV i hi).1
          have hj : j < sz := by
            have := (List.getElem?_eq_some_iff.1 hu).1
            rw [hf] at this
            exact this
          have := hat j hj
          rw [add_of_add] at this
          rw [this]; exact hu
        obtain ⟨u0, hu0⟩ : ∃ u, (f (V 0))[0]? = some u := ⟨_, List.getElem?_eq_getElem (by rw [hf]; exact hs)⟩
        have hcell := hc0 0 0 u0 hpos hu0
        obtain ⟨b, off, spot⟩ := a
        have hspot : spot = none := by simpa [Addr.add] using World.cell?_spot hcell
        subst hspot
        refine ⟨b, off, rfl, ?_, ?_⟩
        · have : (⟨b, off, none⟩ : Addr).add (0 * sz + 0) = ⟨b, off, none⟩ := by simp [Addr.add]
          rw [this] at hcell
          unfold World.cell? at hcell
          cases hh : w.heap[b]? with
          | none => simp [hh] at hcell
          | some o => exact (Array.getElem?_eq_some_iff.1 hh).1
        · intro j u hu
          have hjl : j < len * sz := by
            have := (List.getElem?_eq_some_iff.1 hu).1
            rw [flat_len hf] at this
            simpa using this
          have hi : j / sz < len := by rw [Nat.div_lt_iff_lt_mul hs]; exact hjl
          have hdm : j = j / sz * sz + j % sz := by rw [Nat.mul_comm]; exact (Nat.div_add_mod j sz).symm
          have hmod := Nat.mod_lt j hs
          rw [hdm, flat_at hf _ (j / sz) (j % sz) (V (j / sz)) (by simp [hi]) hmod] at hu
          have := hc0 (j / sz) (j % sz) u hi hu
          rw [← hdm] at this
          have ha : (⟨b, off, none⟩ : Addr).add j = ⟨b, off + j, none⟩ := by
            unfold Addr.add
            split
            · rename_i h; subst h; rfl
            · rfl
          rwa [ha] at this
      · intro y hy
        obtain ⟨i, hi, rfl⟩ := List.mem_map.1 hy
        exact (hV i (List.mem_range.1 hi)).2
def isI64 : Option TypeDesc → Bool
  | some (.int .i64) => true
  | _ => false
theorem isI64_out {o : Option TypeDesc} (h : isI64 o = true) : o = some (.int .i64) := by
  unfold isI64 at h
  split at h
  · rfl
  · cases h
def allInts (P : Program) (fs : Array Field) : Bool := (List.range fs.size).all fun i => match fs[i]? with
  | some f => f.offset == i && (P.cellsOf f.type == 1 && isI64 (P.underlying f.type))
  | none => false
/-- A struct of whole numbers. -/
theorem open_struct_ints {t : TypeId} {fs : Array Field} {fuel : Nat} {cs : List Value} {x : DataW H × List MemPlace} (ht : P.underlying t = some (.struct fs)) (hall : allInts P fs = true) (hC : P.cellsOf t = fs.size)
    (h : DataW.trod enc P w base spare held fuel t cs = some x) : ∃ zs : List Int, zs.length = fs.size ∧ cs = zs.map (Value.int .i64) ∧ ∀ z ∈ zs, (Lit.int .i64 z).wf = true := by
  obtain ⟨xs, m, _, _, hl, hxl, hf⟩ := DataW.trod_struct ht h
  rw [hC] at hl
  have hone : ∀ i, i < fs.size → ∃ z : Int, cs[i]? = some (.int .i64 z) ∧ (Lit.int .i64 z).wf = true := by
    intro i hi
    have hb := List.all_eq_true.1 hall i (List.mem_range.2 hi)
    have hfi : fs[i]? = some fs[i] := Array.getElem?_eq_getElem hi
    simp only [hfi, Bool.and_eq_true, beq_iff_eq] at hb
    obtain ⟨ho, hc, hk⟩ := hb
    have h1 := hf i _ hfi
    rw [ho, hc] at h1
    have hcs : (cs.drop i).take 1 = [cs[i]'(by omega)] := by
      rw [List.drop_eq_getElem_cons (by omega)]; rfl
    rw [hcs, List.getElem?_eq_getElem (by omega)] at h1
    obtain ⟨z, hz, _, hw⟩ := DataW.trod_int (isI64_out hk) h1
    injection hz with hz
    exact ⟨z, by rw [List.getElem?_eq_getElem (by omega), hz], hw⟩
  obtain ⟨V, hV⟩ := choose_lt (α := Int) (n := fs.size) (p := fun i z => cs[i]? = some (.int .i64 z) ∧ (Lit.int .i64 z).wf = true) hone
  refine ⟨(List.range fs.size).map V, by simp, ?_, ?_⟩
  · apply List.ext_getElem?
    intro i
    rcases Nat.lt_or_ge i fs.size with hi | hi
    · rw [(hV i hi).1]; simp [hi]
    · rw [List.getElem?_eq_none (by omega), List.getElem?_eq_none (by simpa using hi)]
  · intro z hz
    obtain ⟨i, hi, rfl⟩ := List.mem_map.1 hz
    exact (hV i (List.mem_range.1 hi)).2
theorem ints_flat (l : List Int) : l.flatMap (fun n => [Value.int .i64 n]) = ints l := by
  induction l with
  | nil => rfl
  | cons x l ih => rw [List.flatMap_cons, ih]; rfl
/-- []int. -/
theorem open_int_list {t e : TypeId} {fuel : Nat} {cs : List Value} {x : DataW H × List MemPlace} (ht : P.underlying t = some (.slice e)) (he : P.underlying e = some (.int .i64)) (hC : P.cellsOf e = 1) (h : DataW.trod enc P w base spare held fuel t cs = some x) :
    ∃ (A : Option Addr) (n c : Nat) (l : List Int), cs = [.slice A n c] ∧ l.length = n ∧ n ≤ maxLen ∧ Rd w w.heap.size 1 A n (ints l) ∧ ∀ y ∈ l, (Lit.int .i64 y).wf = true := by
  obtain ⟨A, n, c, l, h1, h2, h3, h4, h5⟩ := open_slice_as (f := fun n : Int => [Value.int .i64 n]) (Pr := fun y => (Lit.int .i64 y).wf = true) ht hC (by omega) (fun _ => rfl) (fun n cs y hy => by
    obtain ⟨v, rfl, _, hw⟩ := DataW.trod_int he hy
    exact ⟨v, rfl, hw⟩) h
  rw [ints_flat] at h4
  exact ⟨A, n, c, l, h1, h2, h3, h4, h5⟩
end

end Go.Proofs.YtoeobcmmafncmaaDoor
