/- orders.Right: its conditions; walked. -/
import Derived.Test.YtmbopkcmbiommaaGreatDoorRah
import Derived.Laws.EntriesVeiled
import Derived.Test.YtmbopkcmbiommaaGreatDoorRac
import Derived.Deep.RegionHeld3
import Derived.StillTail
set_option maxRecDepth 1000000
set_option maxHeartbeats 16000000
namespace Go.Proofs.YtmbopkcmbiommaaGreatDoor
open Go Go.RowKit
def Asks (w : World) (f : FuncId) (cap : Array Value) (b : Bool) : Prop := ∀ w', Below w.heap.size w w' → Calls Tryz.prog f cap w' (Ret (.bool b) w')
theorem Asks.below {w w' : World} {f : FuncId} {cap : Array Value} {b : Bool} (h : Asks w f cap b) (hb : Below w.heap.size w w') : Asks w' f cap b := fun w2 h2 => h w2 (bCall hb h2)
theorem o_within (p q : Nat) (x n : Int) (W : World) (hp : Blk W p 3 #[.int .i64 x]) (hq : Blk W q 3 #[.int .i64 n]) : Calls Tryz.prog 113 #[.pointer (some ⟨p, 0, none⟩), .pointer (some ⟨q, 0, none⟩)] W (Ret (.bool (blw x n)) W) := by
  have c0 := hp.cell 0
  have c1 := hq.cell 0
  unfold blw
  cases h1 : decide (0 ≤ x) <;> cases h2 : decide (x < n)
  all_goals
    go_enter Tryz.func113, Tryz.ntmps113
    go_wp2_with fail
    go_ret
    exact ⟨by simp_all, bRefl W⟩
theorem o_mk (x n : Int) (W : World) : Calls Tryz.prog 112 #[.int .i64 x, .int .i64 n] W (fun r w' => ∃ cap, r = .returned (.func (.func 113) #[] cap) ∧ Below W.heap.size W w' ∧ Asks w' 113 cap (blw x n)) := by
  have hmf : ∀ (fn : Fn) (first cap : Array Value) (w : World), (Instr.makeFunc fn first cap).run Tryz.prog w = .ok (.func fn first cap) w := fun _ _ _ _ => rfl
  have hb := bAl (bAl (bRefl W) (.cells #[.int .i64 x] 3)) (.cells #[.int .i64 n] 3)
  have B1 := (Blk.new W 3 #[.int .i64 x] _ rfl).alloc (.cells #[.int .i64 n] 3)
  have B2 := Blk.new (W.alloc (.cells #[.int .i64 x] 3)) 3 #[.int .i64 n] _ rfl
  have hk : Asks ((W.alloc (.cells #[.int .i64 x] 3)).alloc (.cells #[.int .i64 n] 3)) 113 #[.pointer (some ⟨W.heap.size, 0, none⟩), .pointer (some ⟨(W.alloc (.cells #[.int .i64 x] 3)).heap.size, 0, none⟩)] (blw x n) := fun w' b => o_within _ _ x n w' (B1.below b B1.lt) (B2.below b B2.lt)
  go_enter Tryz.func112, Tryz.ntmps112
  clear B1 B2
  have hk' := Lib.hid hk
  clear hk
  go_wp2_with fail
  go_ret
  exact ⟨_, rfl, hb, by simpa using hk'.out⟩
theorem o_neq (O : Nat) (o : Odr) (v : Value) (W : World) (hO : Blk W O 65 (o.cl v).toArray) : Calls Tryz.prog 114 #[.pointer (some ⟨O, 0, none⟩)] W (Ret (.bool (decide (o.from_ ≠ o.dest))) W) := by
  have c0 : W.cell? ⟨O, 0, none⟩ = some (.int .i64 o.from_) := hO.cell 0
  have c2 : W.cell? ⟨O, 2, none⟩ = some (.int .i64 o.dest) := hO.cell 2
  go_enter Tryz.func114, Tryz.ntmps114
  go_wp2_with fail
  go_ret
  exact ⟨ret_bool (by by_cases h : o.from_ = o.dest <;> simp [h]), bRefl W⟩
theorem o_against (O F : Nat) (o : Odr) (A : Option Addr) (c : Nat) (n : Int) (W : World) (hO : Blk W O 65 (o.cl (.slice A o.ag.length c)).toArray) (hF : Blk W F 3 #[.int .i64 n]) (hA : Rd W W.heap.size 1 A o.ag.length (ints o.ag)) (hn : o.ag.length ≤ 1000000) :
    Calls Tryz.prog 115 #[.pointer (some ⟨O, 0, none⟩), .pointer (some ⟨F, 0, none⟩)] W (Ret (.bool (agB n (-1) o.ag)) W) := by
  have c8 : W.cell? ⟨O, 8, none⟩ = some (.slice A o.ag.length c) := hO.cell 8
  have f0 := hF.cell 0
  clear hO
  obtain ⟨l, hl⟩ : ∃ l, o.ag = l := ⟨_, rfl⟩
  rw [hl] at c8 hA hn ⊢
  clear hl
  obtain ⟨v, hv⟩ : ∃ v, Hid (agB n (-1) l = v) := ⟨_, Lib.hid rfl⟩
  rw [hv.out]
  go_enter Tryz.func115, Tryz.ntmps115
  go_wp2_with fail
  clear c8
  go_loopw [3, 9] (fun j i wr => ∃ (k : Nat) (b : Int), k ≤ l.length ∧ i = .int .i64 k ∧ j = .int .i64 b ∧ W = wr ∧ Hid (agB n (-1) l = agB n b (l.drop k))) (fun _ i _ => l.length - (intOf i).toNat)
  case atStart => exact ⟨0, -1, Nat.zero_le _, rfl, rfl, rfl, Lib.hid rfl⟩
  case round =>
    obtain ⟨k, b0, hkn, rfl, rfl, rfl, hp⟩ := hrel
    by_cases hlt : k < l.length
    · obtain ⟨x, hx⟩ : ∃ x, Hid (l[k]? = some x) := ⟨_, Lib.hid (List.getElem?_eq_getElem hlt)⟩
      obtain ⟨b, off, rfl, hbb, c0⟩ := Int_at hA hlt hx.out
      have i0 : (0 : Int) ≤ (k : Int) := by omega
      have i1 : (k : Int) < (l.length : Int) := by omega
      have hdr : Hid (agB n (-1) l = ((decide (b0 < x) && decide (x < n)) && agB n x (l.drop (k + 1)))) := Lib.hid (by
        obtain ⟨e1, e2⟩ := List.getElem?_eq_some_iff.1 hx.out
        rw [hp.out, List.drop_eq_getElem_cons e1, e2]; rfl)
      clear hp
      by_cases a1 : x ≤ b0
      · have hr : Hid (v = false) := Lib.hid (by rw [← hv.out, hdr.out, decide_eq_false (by omega)]; rfl)
        clear hdr
        go_wp2_with fail
        go_ret
        exact ⟨ret_bool hr.out.symm, bRefl W⟩
      by_cases a2 : n ≤ x
      · have hr : Hid (v = false) := Lib.hid (by rw [← hv.out, hdr.out, decide_eq_false (p := x < n) (by omega), Bool.and_false]; rfl)
        clear hdr
        go_wp2_with fail
        go_ret
        exact ⟨ret_bool hr.out.symm, bRefl W⟩
      have hp' : Hid (agB n (-1) l = agB n x (l.drop (k + 1))) := Lib.hid (by rw [hdr.out, decide_eq_true (p := b0 < x) (by omega), decide_eq_true (p := x < n) (by omega)]; rfl)
      clear hdr
      go_wp2_with fail
      exact ⟨⟨k + 1, x, by omega, by go_num, rfl, trivial, hp'⟩, by simp [intOf]; omega⟩
    · have hr : Hid (v = true) := Lib.hid (by rw [← hv.out, hp.out, List.drop_of_length_le (by omega)]; rfl)
      clear hp
      go_wp2_with fail
      go_ret
      exact ⟨ret_bool hr.out.symm, bRefl W⟩
end Go.Proofs.YtmbopkcmbiommaaGreatDoor
namespace Go.Proofs.YtmbopkcmbiommaaGreatDoor
open Go
section
variable {P : Program} {ops : Array Oper} {Q : Exit → Act → World → Prop} {md : Region.Mode} {S : World → Prop} {f : Nat}
def wpAnyU (P : Program) (md : Region.Mode) (ops : Array Oper) (Q : Exit → Act → World → Prop) (S : World → Prop) (f : Nat) : Nat → Array Bool → Act → World → Prop
  | 0, listed, a, w => Region.ready md ops listed = [] ∧ Q .normal a w
  | g + 1, listed, a, w => (Region.ready md ops listed = [] → Q .normal a w) ∧
    ∀ i ∈ Region.ready md ops listed, wpOp P ops Q i (fun a' w' => ((listed.setIfInBounds i true).getD f true = false → S w') ∧ wpAnyU P md ops Q S f g (listed.setIfInBounds i true) a' w') a w
theorem wpAny_of_until : ∀ (g : Nat) (listed : Array Bool) (a : Act) (w : World), wpAnyU P md ops Q S f g listed a w → wpAny P md ops Q g listed a w
  | 0, _, _, _, h => h
  | g + 1, _, _, _, h => ⟨h.1, fun i hi => wpOp_mono (fun a' w' h' => wpAny_of_until g _ a' w' h'.2) (h.2 i hi)⟩
def Clo (md : Region.Mode) (ops : Array Oper) (listed : Array Bool) : Prop :=
  listed.size = ops.size ∧ ∀ j oj, ops[j]? = some oj → listed.getD j false = true → ∀ e ∈ oj.after, Region.binds md e = true → listed.getD e.on false = true
def cloB (md : Region.Mode) (ops : Array Oper) (listed : Array Bool) : Bool :=
  decide (listed.size = ops.size) && (List.range ops.size).all fun j => !(listed.getD j false) || match ops[j]? with
    | some oj => oj.after.all fun e => !(Region.binds md e) || listed.getD e.on false
    | none => true
theorem clo_spec {listed : Array Bool} (h : cloB md ops listed = true) : Clo md ops listed := by
  simp only [cloB, Bool.and_eq_true, decide_eq_true_eq, List.all_eq_true, List.mem_range] at h
  refine ⟨h.1, fun j oj hj hl e he hb => ?_⟩
  have h1 := h.2 j (Array.getElem?_eq_some_iff.1 hj).1
  simp only [hl, hj, Bool.not_true, Bool.false_or, Array.all_eq_true_iff_forall_mem] at h1
  have h2 := h1 e he
  simpa [hb] using h2
theorem Clo.set {i : Nat} {listed : Array Bool} (inv : Clo md ops listed) (hi : i ∈ Region.ready md ops listed) : Clo md ops (listed.setIfInBounds i true) := by
  obtain ⟨_, oi, hoi, hall⟩ := mem_ready.1 hi
  refine ⟨by simp [inv.1], fun j oj hj hl e he hb => ?_⟩
  by_cases hij : i = j
  · subst hij
    have : oj = oi := Option.some.inj (hj.symm.trans hoi)
    subst this
    exact getD_set_true (hall e he hb)
  · rw [getD_set_ne false hij] at hl
    exact getD_set_true (inv.2 j oj hj hl e he hb)
def roadB (md : Region.Mode) (ops : Array Oper) (f : Nat) : Nat → List Nat → Bool
  | i, [] => i == f
  | i, j :: l => Region.waitsFor md ops j i && roadB md ops f j l
theorem road_spec {listed : Array Bool} (hc : Clo md ops listed) : ∀ (l : List Nat) (i : Nat), roadB md ops f i l = true → listed.getD i true = false → listed.getD f true = false
  | [], i, h, hu => by
    have : i = f := by simpa [roadB] using h
    exact this ▸ hu
  | j :: l, i, h, hu => by
    simp only [roadB, Bool.and_eq_true] at h
    obtain ⟨oj, hoj, e, he, hb, hon⟩ := Region.waitsFor_spec h.1
    refine road_spec hc l j h.2 (getD_in (by rw [hc.1]; exact (Array.getElem?_eq_some_iff.1 hoj).1) ?_)
    cases hl : listed.getD j false with
    | false => rfl
    | true =>
      have h2 := hc.2 j oj hoj hl e he hb
      rw [hon, getD_both hu] at h2
      cases h2
theorem wpAnyU_first {i : Nat} {oi : Oper} {v : Value} {T : World → Prop} (hi : ops[i]? = some oi) (hsel : ∀ (j : Nat) (o : Oper) cs b, ops[j]? = some o → o.op ≠ .select cs b)
    (hQ : ∀ c a w, Q (.panic c) (a.put oi.dst v) w → Q (.panic c) a w) (hif : i ≠ f) (hT : ∀ listed w, Clo md ops listed → listed.getD i true = false → (listed.getD f true = false → S w) → T w) :
    ∀ (g : Nat) (listed : Array Bool) (a : Act) (w : World), Clo md ops listed →
      (∀ j oj, ops[j]? = some oj → j ≠ i → listed.getD j true = false → (∀ e ∈ oj.after, Region.binds md e = true → e.on ≠ i) → oi.apart ops oj = true) →
      i ∈ Region.ready md ops listed → YieldsIf P ops T oi v a → (listed.getD f true = false → S w) →
      wpAnyU P md ops Q S f g (listed.setIfInBounds i true) (a.put oi.dst v) w → wpAnyU P md ops Q S f (g + 1) listed a w := by
  intro g
  induction g with
  | zero =>
    intro listed a w hc _ hr hy hS H
    have hS' := hT _ _ hc (mem_ready.1 hr).1 hS
    refine ⟨fun h => (by rw [h] at hr; cases hr), fun j hj => ?_⟩
    by_cases hji : j = i
    · subst hji; exact hy.wpOp hi hS' ⟨fun hf => hS (by rw [getD_set_ne true hif] at hf; exact hf), H⟩
    · have := ready_mono hj hji
      rw [H.1] at this
      cases this
  | succ g ih =>
    intro listed a w hc hfree hr hy hS H
    have hun := (mem_ready.1 hr).1
    have hS' := hT _ _ hc hun hS
    refine ⟨fun h => (by rw [h] at hr; cases hr), fun j hj => ?_⟩
    by_cases hji : j = i
    · subst hji; exact hy.wpOp hi hS' ⟨fun hf => hS (by rw [getD_set_ne true hif] at hf; exact hf), H⟩
    · have h1 := H.2 j (ready_mono hj hji)
      obtain ⟨hjun, oj, hoj, hall⟩ := mem_ready.1 hj
      have hnot : ∀ e ∈ oj.after, Region.binds md e = true → e.on ≠ i := fun e he hb heq => by
        have h1 := hall e he hb
        rw [heq, getD_both hun] at h1
        cases h1
      have h2 := wpOp_putIf hoj (hfree j oj hoj hji hjun hnot) (fun cs b => hsel i oi cs b hi) (fun cs b => hsel j oj cs b hoj) hQ hy h1
      have hfree' : ∀ k ok, ops[k]? = some ok → k ≠ i → (listed.setIfInBounds j true).getD k true = false →
          (∀ e ∈ ok.after, Region.binds md e = true → e.on ≠ i) → oi.apart ops ok = true := fun k ok hk hki hun hno => by
        refine hfree k ok hk hki ?_ hno
        by_cases hjk : j = k
        · subst hjk; exact hjun
        · rw [getD_set_ne true hjk] at hun; exact hun
      refine wpOp_mono (fun a' w' h3 => ?_) h2
      have hS2 : (listed.setIfInBounds j true).getD f true = false → S w' := fun hf => by
        apply h3.2.1
        rw [Array.setIfInBounds_comm _ _ (Ne.symm hji), getD_set_ne true hif]
        exact hf
      refine ⟨hS2, ih (listed.setIfInBounds j true) a' w' (hc.set hj) hfree' (ready_mono hr (Ne.symm hji)) h3.1 hS2 ?_⟩
      rw [Array.setIfInBounds_comm _ _ hji]
      exact h3.2.2
theorem wpAnyU_done {listed : Array Bool} {a : Act} {w : World} (hr : Region.ready md ops listed = []) (h : Q .normal a w) : ∀ g, wpAnyU P md ops Q S f g listed a w
  | 0 => ⟨hr, h⟩
  | _ + 1 => ⟨fun _ => h, by rw [hr]; simp⟩
def findRoad (md : Region.Mode) (ops : Array Oper) (f : Nat) : Nat → Nat → List Nat
  | 0, _ => []
  | d + 1, i => if Region.waitsFor md ops f i then [f] else
    match (List.range f).find? (fun j => decide (i < j) && Region.waitsFor md ops j i && !(findRoad md ops f d j).isEmpty) with
    | some j => j :: findRoad md ops f d j
    | none => []
def pickH : List Nat → List Oper → List (Bool × Oper)
  | 0 :: m, _ :: l => pickH m l
  | 1 :: m, o :: l => (false, o) :: pickH m l
  | _ :: m, o :: l => (true, o) :: pickH m l
  | _, _ => []
def pickT : List Nat → List Oper → List Oper
  | 0 :: m, o :: l => o :: pickT m l
  | (_ + 1) :: m, _ :: l => pickT m l
  | _, _ => []
def wpHeads (P : Program) (ops : Array Oper) (S : World → Prop) (K : Act → Prop) : List (Bool × Oper) → Act → Prop
  | [], a => K a
  | (b, o) :: l, a => ∃ v, YieldsIf P ops (bif b then S else fun _ => True) o v a ∧ wpHeads P ops S K l (a.put o.dst v)
def wpTailS (P : Program) (ops : Array Oper) (Q : Exit → Act → World → Prop) (S : World → Prop) : Nat → List Oper → Act → World → Prop
  | n + 1, o :: l, a, w => if Region.wanted o (yielded ops a.tmps) = true then Oper.wp P o a w (fun a' w' => S w' ∧ wpTailS P ops Q S n l a' w') Q else (S w ∧ wpTailS P ops Q S n l (a.put o.dst undef) w)
  | _, l, a, w => wpList P ops Q l a w
def headsOk (md : Region.Mode) (ops : Array Oper) (f : Nat) : List Nat → Nat → Array Bool → Bool
  | [], _, _ => true
  | 0 :: m, k, listed => headsOk md ops f m (k + 1) listed
  | 1 :: m, k, listed => (Region.ready md ops listed).contains k && Region.free md ops listed k && cloB md ops listed && decide (k ≠ f) && headsOk md ops f m (k + 1) (listed.setIfInBounds k true)
  | _ :: m, k, listed => (Region.ready md ops listed).contains k && Region.free md ops listed k && cloB md ops listed && decide (k ≠ f) && roadB md ops f k (findRoad md ops f 6 k) && headsOk md ops f m (k + 1) (listed.setIfInBounds k true)
def headsEnd : List Nat → Nat → Array Bool → Array Bool
  | [], _, listed => listed
  | 0 :: m, k, listed => headsEnd m (k + 1) listed
  | (_ + 1) :: m, k, listed => headsEnd m (k + 1) (listed.setIfInBounds k true)
def headsN : List Nat → Nat
  | [] => 0
  | 0 :: m => headsN m
  | (_ + 1) :: m => headsN m + 1
def tailsN : List Nat → Nat
  | [] => 0
  | 0 :: m => tailsN m + 1
  | (_ + 1) :: m => tailsN m
def tailOk (md : Region.Mode) (ops : Array Oper) (f : Nat) : Nat → List Nat → Nat → Array Bool → Bool
  | _, [], _, listed => (Region.ready md ops listed).isEmpty
  | 0, 0 :: m, k, listed => decide (Region.ready md ops listed = [k]) && (listed.setIfInBounds k true).getD f true && tailOk md ops f 0 m (k + 1) (listed.setIfInBounds k true)
  | n + 1, 0 :: m, k, listed => decide (Region.ready md ops listed = [k]) && tailOk md ops f n m (k + 1) (listed.setIfInBounds k true)
  | n, (_ + 1) :: m, k, listed => tailOk md ops f n m (k + 1) listed
def untilOk (md : Region.Mode) (ops : Array Oper) (f : Nat) (n : Nat) (m : List Nat) : Bool :=
  Region.noSelect ops && decide (m.length = ops.size) && headsOk md ops f m 0 (Array.replicate ops.size false) && tailOk md ops f n m 0 (headsEnd m 0 (Array.replicate ops.size false))
end
end Go.Proofs.YtmbopkcmbiommaaGreatDoor
