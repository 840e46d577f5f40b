/-
  A region that draws its order: a condition on the world that need hold only UNTIL a named operation (a store) has come up:
  what is read ahead of that store, in every order, may be taken first, though the store writes that very cell.
-/
import Derived.Test.YtoeobcmmafncmaaDoorMaa
import Derived.Deep.RegionHeld3
import Derived.StillTail
import Derived.Test.YtoeobcmmafncmaaDoorMan
import Derived.RangeFuncCalls
namespace Go.Proofs.YtoeobcmmafncmaaDoor
open Go

section
variable {P : Program} {ops : Array Oper} {Q : Exit → Act → World → Prop} {md : Region.Mode} {S : World → Prop} {f : Nat}

def wpAnyU (P : Program) (md : Region.Mode) (ops : Array Oper) (Q : Exit → Act → World → Prop) (S : World → Prop) (f : Nat) : Nat → Array Bool → Act → World → Prop
  | 0, listed, a, w => Region.ready md ops listed = [] ∧ Q .normal a w
  | g + 1, listed, a, w => (Region.ready md ops listed = [] → Q .normal a w) ∧
    ∀ i ∈ Region.ready md ops listed, wpOp P ops Q i (fun a' w' => ((listed.setIfInBounds i true).getD f true = false → S w') ∧ wpAnyU P md ops Q S f g (listed.setIfInBounds i true) a' w') a w

theorem wpAny_of_until : ∀ (g : Nat) (listed : Array Bool) (a : Act) (w : World), wpAnyU P md ops Q S f g listed a w → wpAny P md ops Q g listed a w
  | 0, _, _, _, h => h
  | g + 1, _, _, _, h => ⟨h.1, fun i hi => wpOp_mono (fun a' w' h' => wpAny_of_until g _ a' w' h'.2) (h.2 i hi)⟩

/-- What has come up, has come up behind what it waits for. -/
def Clo (md : Region.Mode) (ops : Array Oper) (listed : Array Bool) : Prop :=
  listed.size = ops.size ∧ ∀ j oj, ops[j]? = some oj → listed.getD j false = true → ∀ e ∈ oj.after, Region.binds md e = true → listed.getD e.on false = true
def cloB (md : Region.Mode) (ops : Array Oper) (listed : Array Bool) : Bool :=
  decide (listed.size = ops.size) && (List.range ops.size).all fun j => !(listed.getD j false) || match ops[j]? with
    | some oj => oj.after.all fun e => !(Region.binds md e) || listed.getD e.on false
    | none => true
theorem clo_spec {listed : Array Bool} (h : cloB md ops listed = true) : Clo md ops listed := by
  simp only [cloB, Bool.and_eq_true, decide_eq_true_eq, List.all_eq_true, List.mem_range] at h
  refine ⟨h.1, fun j oj hj hl e he hb => ?_⟩
  have h1 := h.2 j (Array.getElem?_eq_some_iff.1 hj).1
  simp only [hl, hj, Bool.not_true, Bool.false_or, Array.all_eq_true_iff_forall_mem] at h1
  have h2 := h1 e he
  simpa [hb] using h2
theorem Clo.set {i : Nat} {listed : Array Bool} (inv : Clo md ops listed) (hi : i ∈ Region.ready md ops listed) : Clo md ops (listed.setIfInBounds i true) := by
  obtain ⟨_, oi, hoi, hall⟩ := mem_ready.1 hi
  refine ⟨by simp [inv.1], fun j oj hj hl e he hb => ?_⟩
  by_cases hij : i = j
  · subst hij
    have : oj = oi := Option.some.inj (hj.symm.trans hoi)
    subst this
    exact getD_set_true (hall e he hb)
  · rw [getD_set_ne false hij] at hl
    exact getD_set_true (inv.2 j oj hj hl e he hb)

/-- A road from i to f: each waits for the one before. -/
def roadB (md : Region.Mode) (ops : Array Oper) (f : Nat) : Nat → List Nat → Bool
  | i, [] => i == f
  | i, j :: l => Region.waitsFor md ops j i && roadB md ops f j l
theorem road_spec {listed : Array Bool} (hc : Clo md ops listed) : ∀ (l : List Nat) (i : Nat), roadB md ops f i l = true → listed.getD i true = false → listed.getD f true = false
  | [], i, h, hu => by
    have : i = f := by simpa [roadB] using h
    exact this ▸ hu
  | j :: l, i, h, hu => by
    simp only [roadB, Bool.and_eq_true] at h
    obtain ⟨oj, hoj, e, he, hb, hon⟩ := Region.waitsFor_spec h.1
    refine road_spec hc l j h.2 (getD_in (by rw [hc.1]; exact (Array.getElem?_eq_some_iff.1 hoj).1) ?_)
    cases hl : listed.getD j false with
    | false => rfl
    | true =>
      have h2 := hc.2 j oj hoj hl e he hb
      rw [hon, getD_both hu] at h2
      cases h2

theorem wpAnyU_first {i : Nat} {oi : Oper} {v : Value} {T : World → Prop} (hi : ops[i]? = some oi) (hsel : ∀ (j : Nat) (o : Oper) cs b, ops[j]? = some o → o.op ≠ .select cs b)
    (hQ : ∀ c a w, Q (.panic c) (a.put oi.dst v) w → Q (.panic c) a w) (hif : i ≠ f) (hT : ∀ listed w, Clo md ops listed → listed.getD i true = false → (listed.getD f true = false → S w) → T w) :
    ∀ (g : Nat) (listed : Array Bool) (a : Act) (w : World), Clo md ops listed →
      (∀ j oj, ops[j]? = some oj → j ≠ i → listed.getD j true = false → (∀ e ∈ oj.after, Region.binds md e = true → e.on ≠ i) → oi.apart ops oj = true) →
      i ∈ Region.ready md ops listed → YieldsIf P ops T oi v a → (listed.getD f true = false → S w) →
      wpAnyU P md ops Q S f g (listed.setIfInBounds i true) (a.put oi.dst v) w → wpAnyU P md ops Q S f (g + 1) listed a w := by
  intro g
  induction g with
  | zero =>
    intro listed a w hc _ hr hy hS H
    have hS' := hT _ _ hc (mem_ready.1 hr).1 hS
    refine ⟨fun h => (by rw [h] at hr; cases hr), fun j hj => ?_⟩
    by_cases hji : j = i
    · subst hji; exact hy.wpOp hi hS' ⟨fun hf => hS (by rw [getD_set_ne true hif] at hf; exact hf), H⟩
    · have := ready_mono hj hji
      rw [H.1] at this
      cases this
  | succ g ih =>
    intro listed a w hc hfree hr hy hS H
    have hun := (mem_ready.1 hr).1
    have hS' := hT _ _ hc hun hS
    refine ⟨fun h => (by rw [h] at hr; cases hr), fun j hj => ?_⟩
    by_cases hji : j = i
    · subst hji; exact hy.wpOp hi hS' ⟨fun hf => hS (by rw [getD_set_ne true hif] at hf; exact hf), H⟩
    · have h1 := H.2 j (ready_mono hj hji)
      obtain ⟨hjun, oj, hoj, hall⟩ := mem_ready.1 hj
      have hnot : ∀ e ∈ oj.after, Region.binds md e = true → e.on ≠ i := fun e he hb heq => by
        have h1 := hall e he hb
        rw [heq, getD_both hun] at h1
        cases h1
      have h2 := wpOp_putIf hoj (hfree j oj hoj hji hjun hnot) (fun cs b => hsel i oi cs b hi) (fun cs b => hsel j oj cs b hoj) hQ hy h1
      have hfree' : ∀ k ok, ops[k]? = some ok → k ≠ i → (listed.setIfInBounds j true).getD k true = false →
          (∀ e ∈ ok.after, Region.binds md e = true → e.on ≠ i) → oi.apart ops ok = true := fun k ok hk hki hun hno => by
        refine hfree k ok hk hki ?_ hno
        by_cases hjk : j = k
        · subst hjk; exact hjun
        · rw [getD_set_ne true hjk] at hun; exact hun
      refine wpOp_mono (fun a' w' h3 => ?_) h2
      have hS2 : (listed.setIfInBounds j true).getD f true = false → S w' := fun hf => by
        apply h3.2.1
        rw [Array.setIfInBounds_comm _ _ (Ne.symm hji), getD_set_ne true hif]
        exact hf
      refine ⟨hS2, ih (listed.setIfInBounds j true) a' w' (hc.set hj) hfree' (ready_mono hr (Ne.symm hji)) h3.1 hS2 ?_⟩
      rw [Array.setIfInBounds_comm _ _ hji]
      exact h3.2.2

theorem wpAnyU_take {i : Nat} {oi : Oper} {v : Value} {g : Nat} {listed : Array Bool} {a : Act} {w : World} (road : List Nat) (hi : ops[i]? = some oi)
    (hs : Region.noSelect ops = true) (hf : Region.free md ops listed i = true) (hr : (Region.ready md ops listed).contains i = true) (hc : cloB md ops listed = true) (hroad : (decide (i ≠ f) && roadB md ops f i road) = true)
    (hQ : ∀ c a w, Q (.panic c) (a.put oi.dst v) w → Q (.panic c) a w) (hy : YieldsIf P ops S oi v a) (hS : S w)
    (h : wpAnyU P md ops Q S f g (listed.setIfInBounds i true) (a.put oi.dst v) w) : wpAnyU P md ops Q S f (g + 1) listed a w := by
  simp only [Bool.and_eq_true, decide_eq_true_eq] at hroad
  exact wpAnyU_first (T := S) hi (Region.noSelect_spec hs) hQ hroad.1 (fun l w hc hu hS => hS (road_spec hc road i hroad.2 hu)) g listed a w (clo_spec hc) (Region.free_spec hi hf) (by simpa using hr) hy (fun _ => hS) h

/-- What hangs on no world. -/
theorem wpAnyU_take0 {i : Nat} {oi : Oper} {v : Value} {g : Nat} {listed : Array Bool} {a : Act} {w : World} (hi : ops[i]? = some oi)
    (hs : Region.noSelect ops = true) (hf : Region.free md ops listed i = true) (hr : (Region.ready md ops listed).contains i = true) (hc : (cloB md ops listed && decide (i ≠ f)) = true)
    (hQ : ∀ c a w, Q (.panic c) (a.put oi.dst v) w → Q (.panic c) a w) (hy : YieldsIf P ops (fun _ => True) oi v a) (hS : (!(listed.getD f true)) = true → S w)
    (h : wpAnyU P md ops Q S f g (listed.setIfInBounds i true) (a.put oi.dst v) w) : wpAnyU P md ops Q S f (g + 1) listed a w := by
  simp only [Bool.and_eq_true, decide_eq_true_eq] at hc
  exact wpAnyU_first (T := fun _ => True) hi (Region.noSelect_spec hs) hQ hc.2 (fun _ _ _ _ _ => trivial) g listed a w (clo_spec hc.1) (Region.free_spec hi hf) (by simpa using hr) hy (fun hf => hS (by rw [hf]; rfl)) h

theorem wpAnyU_done {listed : Array Bool} {a : Act} {w : World} (hr : Region.ready md ops listed = []) (h : Q .normal a w) : ∀ g, wpAnyU P md ops Q S f g listed a w
  | 0 => ⟨hr, h⟩
  | _ + 1 => ⟨fun _ => h, by rw [hr]; simp⟩

theorem wp_region_until {id : Nat} {a : Act} {w : World} (S : World → Prop) (f : Nat) (hm : P.follows .mixedOrders = true) (hS : S w.drew)
    (h : S w.drew → wpAnyU P .any ops Q S f ops.size (Array.replicate ops.size false) a w.drew) : (Code.region id ops true).wp P Q a w :=
  wp_region_any hm (wpAny_of_until _ _ _ _ (h hS))

/-- The one that may come up, comes up; the condition is shown anew. -/
theorem wpAnyU_one {i : Nat} {o : Oper} {g : Nat} {listed : Array Bool} {a : Act} {w : World} (hr : Region.ready md ops listed = [i]) (ho : ops[i]? = some o)
    (h : ∀ K' : Act → World → Prop, Shut (∀ a w, S w → (S w → wpAnyU P md ops Q S f g (listed.setIfInBounds i true) a w) → K' a w) → if Region.wanted o (yielded ops a.tmps) = true then Oper.wp P o a w K' Q else K' (a.put o.dst undef) w) :
    wpAnyU P md ops Q S f (g + 1) listed a w := by
  refine ⟨fun h0 => (by rw [hr] at h0; cases h0), fun j hj => ?_⟩
  rw [hr] at hj
  obtain rfl : j = i := by simpa using hj
  exact wpOp_step ho (fun K' hK => h K' (fun a w hS hW => hK a w ⟨fun _ => hS, hW hS⟩))
/-- The same, from the named operation on. -/
theorem wpAnyU_end {i : Nat} {o : Oper} {g : Nat} {listed : Array Bool} {a : Act} {w : World} (hr : Region.ready md ops listed = [i]) (ho : ops[i]? = some o) (hf : (listed.setIfInBounds i true).getD f true = true)
    (h : ∀ K' : Act → World → Prop, Shut (∀ a w, wpAnyU P md ops Q S f g (listed.setIfInBounds i true) a w → K' a w) → if Region.wanted o (yielded ops a.tmps) = true then Oper.wp P o a w K' Q else K' (a.put o.dst undef) w) :
    wpAnyU P md ops Q S f (g + 1) listed a w := by
  refine ⟨fun h0 => (by rw [hr] at h0; cases h0), fun j hj => ?_⟩
  rw [hr] at hj
  obtain rfl : j = i := by simpa using hj
  exact wpOp_step ho (fun K' hK => h K' (fun a w hW => hK a w ⟨fun h0 => (by rw [hf] at h0; cases h0), hW⟩))

/-- A road, looked for. -/
def findRoad (md : Region.Mode) (ops : Array Oper) (f : Nat) : Nat → Nat → List Nat
  | 0, _ => []
  | d + 1, i => if Region.waitsFor md ops f i then [f] else
    match (List.range f).find? (fun j => decide (i < j) && Region.waitsFor md ops j i && !(findRoad md ops f d j).isEmpty) with
    | some j => j :: findRoad md ops f d j
    | none => []


/-! ### The whole region: a mask says of each operation: 0 in the forced order, 1 hangs on no world, 2 is read ahead of the named operation. -/
def pickH : List Nat → List Oper → List (Bool × Oper)
  | 0 :: m, _ :: l => pickH m l
  | 1 :: m, o :: l => (false, o) :: pickH m l
  | _ :: m, o :: l => (true, o) :: pickH m l
  | _, _ => []
def pickT : List Nat → List Oper → List Oper
  | 0 :: m, o :: l => o :: pickT m l
  | (_ + 1) :: m, _ :: l => pickT m l
  | _, _ => []
def wpHeads (P : Program) (ops : Array Oper) (S : World → Prop) (K : Act → Prop) : List (Bool × Oper) → Act → Prop
  | [], a => K a
  | (b, o) :: l, a => ∃ v, YieldsIf P ops (bif b then S else fun _ => True) o v a ∧ wpHeads P ops S K l (a.put o.dst v)
def wpTailS (P : Program) (ops : Array Oper) (Q : Exit → Act → World → Prop) (S : World → Prop) : Nat → List Oper → Act → World → Prop
  | n + 1, o :: l, a, w => if Region.wanted o (yielded ops a.tmps) = true then Oper.wp P o a w (fun a' w' => S w' ∧ wpTailS P ops Q S n l a' w') Q else (S w ∧ wpTailS P ops Q S n l (a.put o.dst undef) w)
  | _, l, a, w => wpList P ops Q l a w

def headsOk (md : Region.Mode) (ops : Array Oper) (f : Nat) : List Nat → Nat → Array Bool → Bool
  | [], _, _ => true
  | 0 :: m, k, listed => headsOk md ops f m (k + 1) listed
  | 1 :: m, k, listed => (Region.ready md ops listed).contains k && Region.free md ops listed k && cloB md ops listed && decide (k ≠ f) && headsOk md ops f m (k + 1) (listed.setIfInBounds k true)
  | _ :: m, k, listed => (Region.ready md ops listed).contains k && Region.free md ops listed k && cloB md ops listed && decide (k ≠ f) && roadB md ops f k (findRoad md ops f 6 k) && headsOk md ops f m (k + 1) (listed.setIfInBounds k true)
def headsEnd : List Nat → Nat → Array Bool → Array Bool
  | [], _, listed => listed
  | 0 :: m, k, listed => headsEnd m (k + 1) listed
  | (_ + 1) :: m, k, listed => headsEnd m (k + 1) (listed.setIfInBounds k true)
def headsN : List Nat → Nat
  | [] => 0
  | 0 :: m => headsN m
  | (_ + 1) :: m => headsN m + 1
def tailsN : List Nat → Nat
  | [] => 0
  | 0 :: m => tailsN m + 1
  | (_ + 1) :: m => tailsN m
def tailOk (md : Region.Mode) (ops : Array Oper) (f : Nat) : Nat → List Nat → Nat → Array Bool → Bool
  | _, [], _, listed => (Region.ready md ops listed).isEmpty
  | 0, 0 :: m, k, listed => decide (Region.ready md ops listed = [k]) && (listed.setIfInBounds k true).getD f true && tailOk md ops f 0 m (k + 1) (listed.setIfInBounds k true)
  | n + 1, 0 :: m, k, listed => decide (Region.ready md ops listed = [k]) && tailOk md ops f n m (k + 1) (listed.setIfInBounds k true)
  | n, (_ + 1) :: m, k, listed => tailOk md ops f n m (k + 1) listed

theorem heads_any (hs : Region.noSelect ops = true) (hQ : ∀ d v c a w, Q (.panic c) (Act.put a d v) w → Q (.panic c) a w) {K : Act → Prop} {w : World} (hS : S w) (g : Nat) : ∀ (m : List Nat) (l : List Oper) (k : Nat) (listed : Array Bool) (a : Act),
    m.length = l.length → (∀ j, j < l.length → l[j]? = ops[k + j]?) → headsOk md ops f m k listed = true → wpHeads P ops S K (pickH m l) a →
    (∀ a', K a' → wpAnyU P md ops Q S f g (headsEnd m k listed) a' w) → wpAnyU P md ops Q S f (g + headsN m) listed a w
  | [], _, _, _, a, _, _, _, h, hK => hK a h
  | _ :: _, [], _, _, _, hl, _, _, _, _ => by cases hl
  | t :: m, o :: l, k, listed, a, hl, hlj, hB, h, hK => by
    have ho : ops[k]? = some o := by simpa using (hlj 0 (by simp)).symm
    have hl' : m.length = l.length := by simpa using hl
    have hlj' : ∀ j, j < l.length → l[j]? = ops[k + 1 + j]? := fun j hj => by have := hlj (j + 1) (by simp; omega); simpa [Nat.add_assoc, Nat.add_comm 1 j] using this
    match t, hB, h, hK with
    | 0, hB, h, hK => exact heads_any hs hQ hS g m l (k + 1) listed a hl' hlj' hB h hK
    | 1, hB, h, hK =>
      simp only [headsOk, Bool.and_eq_true, decide_eq_true_eq] at hB
      obtain ⟨⟨⟨⟨h1, h2⟩, h3⟩, h4⟩, h5⟩ := hB
      obtain ⟨v, hv, h⟩ := h
      exact wpAnyU_first (T := fun _ => True) ho (Region.noSelect_spec hs) (hQ _ _) h4 (fun _ _ _ _ _ => trivial) (g + headsN m) listed a w (clo_spec h3) (Region.free_spec ho h2) (by simpa using h1) hv (fun _ => hS)
        (heads_any hs hQ hS g m l (k + 1) _ _ hl' hlj' h5 h hK)
    | t + 2, hB, h, hK =>
      simp only [headsOk, Bool.and_eq_true, decide_eq_true_eq] at hB
      obtain ⟨⟨⟨⟨⟨h1, h2⟩, h3⟩, h4⟩, h6⟩, h5⟩ := hB
      obtain ⟨v, hv, h⟩ := h
      exact wpAnyU_first (T := S) ho (Region.noSelect_spec hs) (hQ _ _) h4 (fun _ _ hc hu hS => hS (road_spec hc _ k h6 hu)) (g + headsN m) listed a w (clo_spec h3) (Region.free_spec ho h2) (by simpa using h1) hv (fun _ => hS)
        (heads_any hs hQ hS g m l (k + 1) _ _ hl' hlj' h5 h hK)

theorem tail_any : ∀ (m : List Nat) (n : Nat) (l : List Oper) (k : Nat) (listed : Array Bool) (a : Act) (w : World),
    m.length = l.length → (∀ j, j < l.length → l[j]? = ops[k + j]?) → tailOk md ops f n m k listed = true → wpTailS P ops Q S n (pickT m l) a w → wpAnyU P md ops Q S f (tailsN m) listed a w
  | [], n, _, _, _, a, w, _, _, hB, h => by
    refine wpAnyU_done (by cases n <;> simpa [tailOk] using hB) ?_ _
    cases n <;> simpa [pickT, wpTailS, wpList] using h
  | _ :: _, _, [], _, _, _, _, hl, _, _, _ => by cases hl
  | t :: m, n, o :: l, k, listed, a, w, hl, hlj, hB, h => by
    have ho : ops[k]? = some o := by simpa using (hlj 0 (by simp)).symm
    have hl' : m.length = l.length := by simpa using hl
    have hlj' : ∀ j, j < l.length → l[j]? = ops[k + 1 + j]? := fun j hj => by have := hlj (j + 1) (by simp; omega); simpa [Nat.add_assoc, Nat.add_comm 1 j] using this
    match t, n, hB, h with
    | 0, 0, hB, h =>
      simp only [tailOk, Bool.and_eq_true, decide_eq_true_eq] at hB
      refine ⟨fun h0 => (by rw [hB.1.1] at h0; cases h0), fun j hj => ?_⟩
      rw [hB.1.1] at hj
      obtain rfl : j = k := by simpa using hj
      have hw : wpOp P ops Q j (wpList P ops Q (pickT m l)) a w := by unfold wpOp; simp only [ho]; exact h
      exact wpOp_mono (fun a' w' h' => ⟨fun h0 => (by rw [hB.1.2] at h0; cases h0), tail_any m 0 l (j + 1) _ a' w' hl' hlj' hB.2 (by cases hp : pickT m l <;> simpa [wpTailS, hp] using h')⟩) hw
    | 0, n + 1, hB, h =>
      simp only [tailOk, Bool.and_eq_true, decide_eq_true_eq] at hB
      refine ⟨fun h0 => (by rw [hB.1] at h0; cases h0), fun j hj => ?_⟩
      rw [hB.1] at hj
      obtain rfl : j = k := by simpa using hj
      have hw : wpOp P ops Q j (fun a' w' => S w' ∧ wpTailS P ops Q S n (pickT m l) a' w') a w := by
        simp only [pickT, wpTailS] at h
        unfold wpOp
        simp only [ho]
        split at h
        · rename_i c; rw [if_pos c]; exact .inl h
        · rename_i c; rw [if_neg c]; exact h
      exact wpOp_mono (fun a' w' h' => ⟨fun _ => h'.1, tail_any m n l (j + 1) _ a' w' hl' hlj' hB.2 h'.2⟩) hw
    | t + 1, n, hB, h => exact tail_any m n l (k + 1) listed a w hl' hlj' (by cases n <;> exact hB) h

def untilOk (md : Region.Mode) (ops : Array Oper) (f : Nat) (n : Nat) (m : List Nat) : Bool :=
  Region.noSelect ops && decide (m.length = ops.size) && headsOk md ops f m 0 (Array.replicate ops.size false) && tailOk md ops f n m 0 (headsEnd m 0 (Array.replicate ops.size false))
theorem mask_len : ∀ m : List Nat, tailsN m + headsN m = m.length
  | [] => rfl
  | 0 :: m => by simp only [tailsN, headsN, List.length_cons]; have := mask_len m; omega
  | (_ + 1) :: m => by simp only [tailsN, headsN, List.length_cons]; have := mask_len m; omega
/-- The region. -/
theorem wp_region_mask {id : Nat} {l : List Oper} {a : Act} {w : World} (S : World → Prop) (f n : Nat) (m : List Nat) (hm : P.follows .mixedOrders = true) (hB : untilOk .any l.toArray f n m = true)
    (hS : S w.drew)
    (h : wpHeads P l.toArray S (fun a' => wpTailS P l.toArray (NoPanic Q) S n (pickT m l) a' w.drew) (pickH m l) a) : (Code.region id l.toArray true).wp P Q a w := by
  simp only [untilOk, Bool.and_eq_true, decide_eq_true_eq] at hB
  obtain ⟨⟨⟨h1, h2⟩, h3⟩, h4⟩ := hB
  have hl : m.length = l.length := by simpa using h2
  refine wp_region_noPanic (wp_region_any hm ?_)
  have := heads_any (md := .any) (f := f) (Q := NoPanic Q) h1 (fun _ _ _ _ _ h => h) hS (tailsN m) m l 0 _ a hl (fun j _ => by simp) h3 h (fun a' h' => tail_any m n l 0 _ a' w.drew hl (fun j _ => by simp) h4 h')
  have := wpAny_of_until _ _ _ _ this
  rw [mask_len, h2] at this
  exact this
theorem wpHeads_cons {K : Act → Prop} {b : Bool} {o : Oper} {l : List (Bool × Oper)} {a : Act} {v : Value} (hw : Region.wanted o (yielded ops a.tmps) = true) (hv : ∀ w, (bif b then S else fun _ => True) w → (execOp a.eval o).run P w = .ok (.value v) w)
    (h : wpHeads P ops S K l (a.put o.dst v)) : wpHeads P ops S K ((b, o) :: l) a := ⟨v, .inl ⟨hw, hv⟩, h⟩
theorem wpTailS_cons {n : Nat} {o : Oper} {l : List Oper} {a : Act} {w : World}
    (h : ∀ K' : Act → World → Prop, Shut (∀ a w, S w → (S w → wpTailS P ops Q S n l a w) → K' a w) → if Region.wanted o (yielded ops a.tmps) = true then Oper.wp P o a w K' Q else K' (a.put o.dst undef) w) :
    wpTailS P ops Q S (n + 1) (o :: l) a w := h _ (fun _ _ hS hW => ⟨hS, hW hS⟩)
theorem wpTailS_zero {l : List Oper} {a : Act} {w : World} (h : wpList P ops Q l a w) : wpTailS P ops Q S 0 l a w := by cases l <;> exact h
theorem wpHeads_nil {K : Act → Prop} {a : Act} (h : K a) : wpHeads P ops S K [] a := h
end
end Go.Proofs.YtoeobcmmafncmaaDoor

/-
  A range over an iterator that writes nothing: the loop's state is a list of blocks, known whole, and a word on what has been yielded.
-/
namespace Go.Proofs.YtoeobcmmafncmaaDoor
open Go.RowKit

/-- A contract, inside a round. -/
theorem inR {n : Nat} {P : Program} {f : FuncId} {args : Array Value} {w : World} {R : Ending → World → Prop} (L : Nat) (h : Calls P f args w R) : CallsIn (Fence.wide.inRound L) n P f args w R := (callsIn_wide.2 h).inRound L

/-- Blocks that are known whole. -/
def Blks (W : World) : List (Nat × TypeId × Array Value) → Prop
  | [] => True
  | x :: l => Blk W x.1 x.2.1 x.2.2 ∧ Blks W l
theorem Blks.kept {W W' : World} {row : Option Nat} {B : Nat} (hg : W.grownBy W' row) (hr : ∀ r, row = some r → B ≤ r ∧ ∃ o : Obj, W.heap[r]? = some o ∧ o.isCells = false) : ∀ {l : List (Nat × TypeId × Array Value)}, Blks W l → Blks W' l
  | [], _ => trivial
  | _ :: _, h => ⟨h.1.kept hg hr, Blks.kept hg hr h.2⟩
theorem Blks.put {W : World} {D : Nat} {o o' : Obj} (hD : W.heap[D]? = some o) (ho : o.isCells = false) : ∀ {l : List (Nat × TypeId × Array Value)}, Blks W l → Blks (W.putObj D o') l
  | [], _ => trivial
  | _ :: _, h => ⟨h.1.put hD ho, Blks.put hD ho h.2⟩

/-- What a round comes to. -/
def RoundPost {α : Type} (K : Nat → Prop) (base : World) (bl : List α → List (Nat × TypeId × Array Value)) (R : List α → Prop) (bx : Code → List α → List (Nat × TypeId × Array Value)) (Rx : Code → List α → Prop) (xs : List α) (W : World) : Exit → Act → World → Prop
  | .normal, _, W' => KeepsOthers W W' ∧ Keeps K W W' ∧ Below base.heap.size base W' ∧ Blks W' (bl xs) ∧ R xs
  | .ret, _, W' => KeepsOthers W W' ∧ Below base.heap.size base W' ∧ Blks W' (bx .ret xs) ∧ Rx .ret xs
  | .exit id, _, W' => KeepsOthers W W' ∧ Below base.heap.size base W' ∧ Blks W' (bx (.exit id) xs) ∧ Rx (.exit id) xs
  | .goto t, _, W' => KeepsOthers W W' ∧ Below base.heap.size base W' ∧ Blks W' (bx (.goto t) xs) ∧ Rx (.goto t) xs
  | .panic _, _, _ => False
  | .outgrown, _, _ => False

theorem wp_rangeB {P : Program} {α : Type} {g : Operand} {ps : Array Tmp} {assign body : Code} {Q : Exit → Act → World → Prop} {a : Act} {w : World} (n : Nat)
    {gf : Nat} {lb : Array Value} (hg : a.eval g = .func (.func gf) #[] lb) (eg : ∀ args w, (callFunc gf args).run P w = .ok (.enter gf args) w)
    {encs : α → Array Value} {S Sp : List α → Prop} {N : Nat} (K : Nat → Prop) (hseq : SeqT (fun _ => False) (n + 1) P gf lb encs (Keeps K) S Sp N w) (hK : ∀ k, K k → k < w.heap.size) (hps : ∀ x, (encs x).size = ps.size)
    (base : World) (hb : Below base.heap.size base w) (bl : List α → List (Nat × TypeId × Array Value)) (R : List α → Prop) (bx : Code → List α → List (Nat × TypeId × Array Value)) (Rx : Code → List α → Prop)
    (h0 : Blks w (bl [])) (hR0 : R [])
    (hround : ∀ (l : Nat) (pre : List α) (x : α) (W : World), pre.length < N →
      assign.wpIn (Fence.wide.inRound l) n P (Exit.then (fun a₁ W₁ => W = W₁ ∧ ∀ (L : Nat) (W2 : World), Below base.heap.size base W2 → Blks W2 (bl pre) → R pre → body.wpIn (Fence.wide.inRound L) n P (RoundPost K base bl R bx Rx (pre ++ [x]) W2) a₁ W2) (fun _ _ _ => False)) { tmps := (ps.zip (encs x)).foldl (fun t (p, v) => t.setIfInBounds p v) a.tmps, defers := [] } W)
    (hdone : ∀ (D : Nat) (xs : List α) (W : World), base.heap.size ≤ D → S xs → Below base.heap.size base W → Blks W (bl xs) → R xs → W.heap[D]? = some (.deferred (some [])) → Q .normal { a with defers := { target := .collected D, args := #[] } :: a.defers } W)
    (hstop : ∀ (D : Nat) (c : Code) (pre : List α) (W : World), base.heap.size ≤ D → Sp pre → Below base.heap.size base W → Blks W (bx c pre) → Rx c pre → W.heap[D]? = some (.deferred (some [])) → c.wp P Q { a with defers := { target := .collected D, args := #[] } :: a.defers } W) :
    (Code.rangeFunc g ps assign body).wp P Q a w := by
  refine wp_rangeFuncT n hg eg (S := S) (Sp := Sp) (N := N) (w0 := w) (T := fun _ => False) hseq (fun _ h => h.elim) Keeps.trans (Keeps.put hK) (bRefl _) hps
    (fun pre W' => Below base.heap.size base W' ∧ Blks W' (bl pre) ∧ R pre)
    (fun x a₁ pre W' => (Below base.heap.size base W' ∧ Blks W' (bl pre) ∧ R pre) ∧ ∀ (L : Nat) (W2 : World), Below base.heap.size base W2 → Blks W2 (bl pre) → R pre → body.wpIn (Fence.wide.inRound L) n P (RoundPost K base bl R bx Rx (pre ++ [x]) W2) a₁ W2)
    (fun c pre W' => Below base.heap.size base W' ∧ Blks W' (bx c pre) ∧ Rx c pre)
    (fun pre A' B' row h hg hr => ⟨bGrown h.1 hg hb.size hr, Blks.kept hg hr h.2.1, h.2.2⟩)
    (fun x a pre A' B' row h hg hr => ⟨⟨bGrown h.1.1 hg hb.size hr, Blks.kept hg hr h.1.2.1, h.1.2.2⟩, h.2⟩)
    (fun c pre A' B' row h hg hr => ⟨bGrown h.1 hg hb.size hr, Blks.kept hg hr h.2.1, h.2.2⟩)
    (fun _ _ _ _ _ ht => ht.elim)
    (fun _ _ _ _ _ _ ht => ht.elim)
    ⟨hb, h0, hR0⟩ ?_ ?_ ?_ ?_
  · intro l pre x W hI hlen
    refine wpIn_mono (hround l pre x W hlen) ?_
    intro e a' w' hp
    cases e with
    | normal =>
      obtain ⟨rfl, hp⟩ := hp
      exact ⟨KeepsOthers.refl _, Keeps.refl _ _, hI, hp⟩
    | _ => exact hp
  · intro l pre x a₁ W hI hlen
    refine wpIn_mono (hI.2 l W hI.1.1 hI.1.2.1 hI.1.2.2) ?_
    intro e a' w' hp
    cases e with
    | normal => exact ⟨hp.1, hp.2.1, hp.2.2.1, hp.2.2.2.1, hp.2.2.2.2⟩
    | ret => exact ⟨hp.1, hp.2.1, hp.2.2.1, hp.2.2.2⟩
    | exit id => exact ⟨hp.1, hp.2.1, hp.2.2.1, hp.2.2.2⟩
    | goto t => exact ⟨hp.1, hp.2.1, hp.2.2.1, hp.2.2.2⟩
    | panic ch => exact hp.elim
    | outgrown => exact hp.elim
  · intro D xs W hD hS hI hd
    exact hdone D xs W (Nat.le_trans hb.size hD) hS hI.1 hI.2.1 hI.2.2 hd
  · intro D c pre W hD hS hI hd
    exact hstop D c pre W (Nat.le_trans hb.size hD) hS hI.1 hI.2.1 hI.2.2 hd

/-- One block turned, the others as they lay. -/
theorem Keeps.grown {S : Nat → Prop} {A B : World} {s : Nat} (hg : A.grownBy B (some s)) (hS : ∀ k, S k → k < A.heap.size ∧ k ≠ s) : Keeps S A B :=
  ⟨hg.size, fun k hk => hg.block k (hS k hk).1 (by intro e; injection e with e; exact (hS k hk).2 e)⟩
theorem Blk.grown {A B : World} {s g : Nat} {t : TypeId} {cs : Array Value} (h : Blk A g t cs) (hg : A.grownBy B (some s)) (hne : g ≠ s) : Blk B g t cs :=
  (hg.block g h.lt (by intro e; injection e with e; exact hne e)).trans h
theorem KeepsOthers.grown {A B : World} {s : Nat} {t : TypeId} {cs : Array Value} (hg : A.grownBy B (some s)) (h : Blk A s t cs) : KeepsOthers A B :=
  KeepsOthers.of_grownBy hg (fun j o e ho => by cases e; unfold Blk at h; rw [h] at ho; cases ho; rfl)
theorem bGrownS {a A B : World} {s : Nat} (h : Below a.heap.size a A) (hg : A.grownBy B (some s)) (hs : a.heap.size ≤ s) : Below a.heap.size a B :=
  h.grown hg h.size (fun k e => by cases e; exact hs)
theorem grownBy_below_set {A w1 : World} (b : Below A.heap.size A w1) (s o : Nat) (v : Value) : A.grownBy (w1.setCell ⟨s, o, none⟩ v) (some s) := by
  refine ⟨b.os, b.tape, b.output, Nat.le_trans b.size (by simp [World.setCell]), fun i hi hne => ?_⟩
  rw [Below.heap_setCell _ _ _ _ (by intro e; exact hne (by rw [e]))]
  exact b.block i hi
theorem grownBy_below {A w1 : World} (b : Below A.heap.size A w1) (row : Option Nat) : A.grownBy w1 row := ⟨b.os, b.tape, b.output, b.size, fun i hi _ => b.block i hi⟩
theorem KeepsOthers.below {A B : World} (b : Below A.heap.size A B) : KeepsOthers A B := KeepsOthers.of_grownBy (grownBy_below b none) (fun _ _ e _ => by cases e)
theorem grownBy_set {A B : World} {s : Nat} (h : A.grownBy B (some s)) (o : Nat) (v : Value) : A.grownBy (B.setCell ⟨s, o, none⟩ v) (some s) := by
  refine ⟨h.os, h.tape, h.output, Nat.le_trans h.size (by simp [World.setCell]), fun i hi hne => ?_⟩
  rw [Below.heap_setCell _ _ _ _ (by intro e; exact hne (by rw [e]))]
  exact h.block i hi hne
end Go.Proofs.YtoeobcmmafncmaaDoor
