/- Stores into the row that a slice owns. -/
import Derived.Test.YtmbopkcmbiommaaGreatDoorRau
import Derived.Test.YtmbopkcmbiommaaGreatDoorRat
set_option maxRecDepth 1000000
set_option maxHeartbeats 16000000
namespace Go.Proofs.YtmbopkcmbiommaaGreatDoor
open Go Go.RowKit
def OwnAt (w : World) (base : Nat) (e : TypeId) (size g n cap : Nat) (xs : List Value) : Prop := w.ownsRow base e size (.slice (some ⟨g, 0, none⟩) n cap) n xs
theorem OwnAt.parts {w : World} {base : Nat} {e : TypeId} {size g n cap : Nat} {xs : List Value} (h : w.ownsRow base e size (.slice (some ⟨g, 0, none⟩) n cap) n xs) :
    xs.length = n * size ∧ base ≤ g ∧ ∃ cur, Blk w g e cur ∧ n ≤ cap ∧ cap ≤ maxLen ∧ cur.size = cap * size ∧ cur.toList.take (n * size) = xs := by
  obtain ⟨h1, h2⟩ := h
  refine ⟨h1, ?_⟩
  rcases h2 with ⟨h2, _⟩ | ⟨g', cap', cur, hv, hb, hh, r1, r2, r3, r4⟩
  · cases h2
  · injection hv with e1 _ e3
    injection e1 with e1
    injection e1 with e1
    subst e1; subst e3
    exact ⟨hb, cur, hh, r1, r2, r3, r4⟩
theorem own_cell {w : World} {base : Nat} {e : TypeId} {size g n cap : Nat} {xs : List Value} (h : w.ownsRow base e size (.slice (some ⟨g, 0, none⟩) n cap) n xs) {i : Nat} {u : Value} (hi : xs[i]? = some u) : w.cell? ⟨g, i, none⟩ = some u := by
  obtain ⟨h1, h2, cur, hB, h3, h4, h5, h6⟩ := OwnAt.parts h
  rw [hB.cell i]
  rw [← h6, List.getElem?_take] at hi
  split at hi
  · simpa using hi
  · cases hi
theorem own_set {w : World} {base : Nat} {e : TypeId} {size g n cap : Nat} {xs : List Value} (h : w.ownsRow base e size (.slice (some ⟨g, 0, none⟩) n cap) n xs) (i : Nat) (u : Value) :
    (w.setCell ⟨g, i, none⟩ u).ownsRow base e size (.slice (some ⟨g, 0, none⟩) n cap) n (xs.set i u) := by
  obtain ⟨h1, h2, cur, hB, h3, h4, h5, h6⟩ := OwnAt.parts h
  refine ⟨by rw [List.length_set]; exact h1, .inr ⟨g, cap, cur.setIfInBounds i u, rfl, h2, hB.set_ i u, h3, h4, by simpa using h5, ?_⟩⟩
  rw [← h6, Array.toList_setIfInBounds, List.take_set]
def bys (l : List ByteArray) : List By := l.map (fun s => s.data.toList)
theorem numsO_snoc {s : By} {n : Int} : ∀ {a : List By} {ns : List Int}, numsO a = some ns → numO s = some n → numsO (a ++ [s]) = some (ns ++ [n])
  | [], ns, h, hn => by
    have : ns = [] := by simpa [numsO] using h.symm
    subst this
    simp [numsO, hn]
  | x :: a, ns, h, hn => by
    unfold numsO at h
    rw [List.cons_append]
    unfold numsO
    cases hx : numO x with
    | none => rw [hx] at h; cases h
    | some m =>
      cases ha : numsO a with
      | none => rw [hx, ha] at h; cases h
      | some l =>
        rw [hx, ha] at h
        injection h with h
        subst h
        rw [numsO_snoc ha hn]
        rfl
theorem numsO_no {s : By} (hs : numO s = none) : ∀ {a : List By}, s ∈ a → numsO a = none
  | x :: a, h => by
    unfold numsO
    rcases List.mem_cons.1 h with rfl | h
    · rw [hs]
    · rw [numsO_no hs h]
      cases numO x <;> rfl
def numsV (l : List By) (many : Int) : Option (List Int) := if 0 ≤ many ∧ many ≠ (l.length : Int) then none else numsO l
def NumsPost (o : Option (List Int)) (w : World) (r : Ending) (w' : World) : Prop :=
  (match o with | some ns => ∃ v, r = .returned v ∧ w'.ownsRow w.heap.size 3 1 v ns.length (ints ns) | none => r = PanW) ∧ Below w.heap.size w w'
theorem NumsPost.no {o : Option (List Int)} {w w' : World} (h : o = none) (b : Below w.heap.size w w') : NumsPost o w PanW w' := by rw [h]; exact ⟨rfl, b⟩
theorem NumsPost.yes {o : Option (List Int)} {ns : List Int} {w w' : World} {v : Value} (h : o = some ns) (hv : w'.ownsRow w.heap.size 3 1 v ns.length (ints ns)) (b : Below w.heap.size w w') : NumsPost o w (.returned v) w' := by rw [h]; exact ⟨⟨v, rfl, hv⟩, b⟩
theorem int_info : (Tryz.prog.info? 3).map (fun i => (i.zero, i.size, i.bytes)) = some (some (.int .i64 0), 1, 8) := by kernel_rfl
theorem rep_numbers (B : Nat) (A : Option Addr) (c : Nat) (l : List ByteArray) (many : Int) (W : World) (hA : Rd W W.heap.size 1 A l.length (strs l)) (hl : ∀ s ∈ l, s.size ≤ 1000000) (hn : l.length ≤ 1000000) (hG : LibG B W) (hB : B ≤ W.heap.size) :
    Calls Tryz.prog 91 #[.slice A l.length c, .int .i64 many] W (NumsPost (numsV (bys l) many) W) := by
  obtain ⟨o, ho⟩ : ∃ o, Hid (numsV (bys l) many = o) := ⟨_, Lib.hid rfl⟩
  rw [ho.out]
  have hlb : (bys l).length = l.length := List.length_map ..
  go_enter Tryz.func91, Tryz.ntmps91
  go_wp2_with (first | (go_at_call 55; (with_reducible refine (want_yes _).mono ?_); rintro e w3 ⟨rfl, rfl⟩) | (go_at_call 55; (with_reducible refine (want_any _ _).mono ?_); rintro e w3 ⟨(⟨hq, rfl⟩ | ⟨hq, h9⟩), rfl⟩; rotate_left 1; (unfold PanW at h9; subst h9); rotate_left 1))
  case inr =>
    refine ⟨rfl, NumsPost.no (ho.out.symm.trans (if_pos ?_)) (bRefl W)⟩
    simp only [Bool.or_eq_false_iff, decide_eq_false_iff_not, beq_eq_false_iff_ne, Int.not_lt] at hq
    exact ⟨hq.1, fun h => hq.2 (by rw [h, hlb])⟩
  all_goals
    have hv : Hid (numsO (bys l) = o) := Lib.hid (by
      refine Eq.trans (if_neg ?_).symm ho.out
      rintro ⟨h1, h2⟩
      rw [hlb] at h2
      first
        | omega
        | (simp only [Bool.or_eq_true, decide_eq_true_eq, beq_iff_eq] at hq; omega))
    clear ho
    try clear hq
    go_loopw [4, 18] (fun v i wr => ∃ (k : Nat) (ns : List Int), k ≤ l.length ∧ i = .int .i64 k ∧ ns.length = k ∧ Below W.heap.size W wr ∧ Hid (numsO ((bys l).take k) = some ns) ∧ wr.ownsRow W.heap.size 3 1 v k (ints ns)) (fun _ i _ => l.length - (intOf i).toNat)
    case atStart => exact ⟨0, [], Nat.zero_le _, rfl, rfl, bRefl W, Lib.hid (by rw [List.take_zero]; rfl), World.ownsRow_nil _ _ _ _⟩
    case round =>
      obtain ⟨k, ns, hk, rfl, hnk, hb, hns, hown⟩ := hrel
      by_cases hlt : k < l.length
      · obtain ⟨x, hx⟩ : ∃ x, Hid (l[k]? = some x) := ⟨_, Lib.hid (List.getElem?_eq_getElem hlt)⟩
        obtain ⟨b, off, rfl, hbb, d0⟩ := Str_at (hA.below hb) hlt hx.out
        have hxm : x ∈ l := List.mem_of_getElem? hx.out
        have hbx : Hid ((bys l)[k]? = some x.data.toList) := Lib.hid (by unfold bys; rw [List.getElem?_map, hx.out]; rfl)
        have q1 := Lib.hid (rep_number B x wr (hl x hxm) (hG.below (hb.mono hB)) (Nat.le_trans hB hb.size))
        have hbs : W.heap.size ≤ wr.heap.size := hb.size
        have i0 : (0 : Int) ≤ (k : Int) := by omega
        have i1 : (k : Int) < (l.length : Int) := by omega
        cases hxn : numO x.data.toList with
        | none =>
          rw [hxn] at q1
          go_wp2_with (go_at_call 132; (with_reducible refine q1.out.mono ?_); rintro e w2 ⟨h9, b2⟩; (simp only at h9; unfold PanW at h9; subst h9))
          exact ⟨rfl, NumsPost.no (hv.out.symm.trans (numsO_no hxn (List.mem_of_getElem? hbx.out))) (bCall hb b2)⟩
        | some n =>
          rw [hxn] at q1
          have h63 : k + 1 ≤ maxLen := by unfold maxLen; omega
          have hby : (k + 1) * 8 ≤ 140737488355328 := by omega
          have hone : ∀ u ∈ [Value.int .i64 n], u.oneCell' = true := by intro u hu; simp at hu; rcases hu with rfl; rfl
          have hns2 : Hid (numsO ((bys l).take (k + 1)) = some (ns ++ [n])) := Lib.hid (by
            obtain ⟨hk2, hx2⟩ := List.getElem?_eq_some_iff.1 hbx.out
            rw [List.take_succ_eq_append_getElem hk2, hx2]
            exact numsO_snoc hns.out hxn)
          go_wp2_with (first | (go_at_call 132; (with_reducible refine q1.out.mono ?_); rintro e w2 ⟨h9, b2⟩; (simp only at h9; subst h9); have hown2 := ownsRow_keep hown b2; have hbs2 := Nat.le_trans hbs b2.size) | (at_builtin; refine wpList_append1G _ [.int .i64 n] (.tmp 22) (.tmp 25) 25 W.heap.size 3 (.int .i64 0) 1 8 _ k (ints ns) rfl rfl Tryz.underlying25 int_info rfl (by omega) rfl hown2 rfl rfl hone h63 hby hbs2 ?_; intro v' w' hown4 hg4))
          have b4 := hg4.below hown2 hbs2
          exact ⟨⟨k + 1, ns ++ [n], by omega, by go_num, by simp [hnk], (bCall hb b2).trans b4, hns2, by unfold ints at hown4 ⊢; rw [List.map_append]; exact hown4⟩, by simp [intOf]; omega⟩
      · obtain rfl : k = l.length := by omega
        have hns3 : Hid (o = some ns) := Lib.hid (by have := hns.out; rw [List.take_of_length_le (by omega)] at this; rw [← hv.out, this])
        clear hns
        go_wp2_with fail
        go_ret
        exact NumsPost.yes hns3.out (by rw [hnk]; exact hown) hb
end Go.Proofs.YtmbopkcmbiommaaGreatDoor
