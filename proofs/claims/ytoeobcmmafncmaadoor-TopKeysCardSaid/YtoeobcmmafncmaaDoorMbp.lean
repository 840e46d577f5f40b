/-
  handover: text's closure (numbers are put behind), text; walked.
-/
import Derived.Test.YtoeobcmmafncmaaDoorMao
import Derived.Test.YtoeobcmmafncmaaDoorMbo
import Derived.Test.YtoeobcmmafncmaaDoorMaj
import Derived.Test.YtoeobcmmafncmaaDoorMak
namespace Go.Proofs.YtoeobcmmafncmaaDoor
open Go.RowKit

def zeroV : List Value := [.int .i64 0, .int .i64 0, .string ⟨#[]⟩, .slice none 0 0]
theorem Blk.dw {w : World} {g : Nat} {t : TypeId} {cs : Array Value} (h : Blk w g t cs) : Blk w.drew g t cs := h
theorem Blk.neT {w : World} {g g2 : Nat} {t t2 : TypeId} {cs cs2 : Array Value} (h : Blk w g t cs) (h2 : Blk w g2 t2 cs2) (hne : t ≠ t2) : g ≠ g2 := by
  intro e
  subst e
  unfold Blk at h h2
  rw [h] at h2
  simp at h2
  exact hne h2.2
theorem fill4 {X : List Value} {n : Nat} (h : X.length = n * 4) (u0 u1 u2 u3 : Value) : ((((X ++ zeroV).set (n * 4) u0).set (n * 4 + 1) u1).set (n * 4 + 2) u2).set (n * 4 + 3) u3 = X ++ [u0, u1, u2, u3] := by
  simp [h, zeroV]
set_option maxRecDepth 100000 in
set_option maxHeartbeats 4000000 in
/-- The closure 'put': numbers behind what lies there. -/
theorem ho_put (ga c : Nat) (l : List Int) (W : World) (b k0 : Nat) (v0 : Value) (xs : List Value) (BA : Blk W ga 3 (ints l).toArray) (hn : l.length ≤ 100) (hk0 : k0 ≤ 1000)
    (BV : Blk W b 148 #[.int .i64 3, .int .i64 0, .string ⟨#[]⟩, v0]) (hown : W.ownsRow (b + 1) 148 4 v0 k0 xs) :
    Calls Tryd.prog 83 #[.slice (some ⟨ga, 0, none⟩) l.length c, .pointer (some ⟨b, 0, none⟩)] W (fun e w' => e = .returned (.tuple #[]) ∧ Below b W w' ∧ ∃ v, Blk w' b 148 #[.int .i64 3, .int .i64 0, .string ⟨#[]⟩, v] ∧ w'.ownsRow (b + 1) 148 4 v (k0 + l.length) (xs ++ (l.map It.int).flatMap It.cells)) := by
  go_enter Tryd.func83, Tryd.ntmps83
  go_wp2_with fail
  have hbs0 : b + 1 ≤ W.heap.size := BV.lt
  go_loopw [7] (fun i wr => ∃ (k : Nat) (v : Value), k ≤ l.length ∧ i = .int .i64 k ∧ Below b W wr ∧ W.heap.size ≤ wr.heap.size ∧ Blk wr ga 3 (ints l).toArray ∧ Blk wr b 148 #[.int .i64 3, .int .i64 0, .string ⟨#[]⟩, v] ∧ wr.ownsRow (b + 1) 148 4 v (k0 + k) (xs ++ ((l.take k).map It.int).flatMap It.cells)) (fun i _ => l.length - (intOf i).toNat)
  case atStart => exact ⟨0, _, Nat.zero_le _, rfl, Below.refl _ _, Nat.le_refl _, BA, BV, by simpa using hown⟩
  case round =>
    clear BV BA hown
    obtain ⟨k, v, hk, rfl, hb, hsz, BA, BV, hown⟩ := hrel
    have c3 : wr.cell? ⟨b, 3, none⟩ = some v := BV.cell 3
    have z3 := BV.frozen 3
    by_cases hlt : k < l.length
    · obtain ⟨x, hx⟩ : ∃ x, Hid (l[k]? = some x) := ⟨_, Lib.hid (List.getElem?_eq_getElem hlt)⟩
      have d0 : wr.cell? ⟨ga, k, none⟩ = some (.int .i64 x) := by rw [BA.cell k]; simp [ints, hx.out]
      have hsn : Hid (xs ++ ((l.take (k + 1)).map It.int).flatMap It.cells = (xs ++ ((l.take k).map It.int).flatMap It.cells) ++ (It.int x).cells) := by
        obtain ⟨hk, rfl⟩ := List.getElem?_eq_some_iff.1 hx.out
        show _ = _
        rw [List.take_succ_eq_append_getElem hk, List.map_append, List.flatMap_append]; simp
      have hbs : b + 1 ≤ wr.heap.size := BV.lt
      have h63 : (k0 + k) + 1 ≤ maxLen := by unfold maxLen; omega
      have hby : ((k0 + k) + 1) * 56 ≤ 140737488355328 := by omega
      generalize hX : xs ++ ((l.take k).map It.int).flatMap It.cells = X at *
      obtain ⟨n0, hn0⟩ : ∃ n0, n0 = k0 + k := ⟨_, rfl⟩
      rw [← hn0] at hown h63 hby
      replace hn0 := Lib.hid hn0
      have hXl : X.length = n0 * 4 := hown.1
      obtain ⟨A2, c2, hv, _⟩ := Sl.of_own hown
      subst hv
      have KS : Hid (∀ w', Below wr.heap.size wr w' → w'.cell? ⟨b, 3, none⟩ = some (.slice A2 n0 c2)) := Lib.hid (fun w' h => (BV.below h BV.lt).cell 3)
      go_upto_region 3 with fail
      clear c3 z3 d0
      have hownD : (wr.alloc (.cells #[.int .i64 0, .int .i64 0, .string ⟨#[]⟩, .slice none 0 0] 148)).drew.ownsRow (b + 1) 148 4 (.slice A2 n0 c2) n0 X := ownsRow_keep hown (bDr (bAl (bRefl wr) _))
      have BZ : Blk (wr.alloc (.cells #[.int .i64 0, .int .i64 0, .string ⟨#[]⟩, .slice none 0 0] 148)).drew wr.heap.size 148 zeroV.toArray := Blk.dw (Blk.new wr _ _ _ rfl)
      have hsD : b + 1 ≤ (wr.alloc (.cells #[.int .i64 0, .int .i64 0, .string ⟨#[]⟩, .slice none 0 0] 148)).drew.heap.size := by show b + 1 ≤ (wr.alloc _).heap.size; simp; omega
      have BVD : Blk (wr.alloc (.cells #[.int .i64 0, .int .i64 0, .string ⟨#[]⟩, .slice none 0 0] 148)).drew b 148 #[.int .i64 3, .int .i64 0, .string ⟨#[]⟩, .slice A2 n0 c2] := Blk.dw (BV.alloc _)
      have BAD : Blk (wr.alloc (.cells #[.int .i64 0, .int .i64 0, .string ⟨#[]⟩, .slice none 0 0] 148)).drew ga 3 (ints l).toArray := Blk.dw (BA.alloc _)
      have hbD : Below b W (wr.alloc (.cells #[.int .i64 0, .int .i64 0, .string ⟨#[]⟩, .slice none 0 0] 148)).drew := hb.trans ((bDr (bAl (bRefl wr) _)).mono (by omega))
      have hone : ∀ u ∈ zeroV, u.oneCell' = true := by intro u hu; simp [zeroV] at hu; rcases hu with rfl | rfl | rfl | rfl <;> rfl
      have hlt1 : (n0 : Int) < (n0 : Int) + 1 := by omega
      refine wp_region_schT (f := 6) KS [(0, 1), (1, 2), (2, 1), (3, 1), (4, 1), (5, 0), (6, 3), (7, 1), (9, 1), (8, 4), (10, 4)] ?_
      simp only [pickS, List.getElem?_cons_zero, List.getElem?_cons_succ]
      refine wpSchedT_t ?_
      refine wpSchedT_r ?_
      refine wpSchedT_t ?_
      refine wpSchedT_t ?_
      refine wpSchedT_t ?_
      refine wpSchedT_force (fun K hK => ?_)
      first | (refine step_appendB (by rfl) (.tmp 12) (.tmp 16) 146 (by rfl) (b + 1) 148 (.agg #[.int .i64 0, .int .i64 0, .string ⟨#[]⟩, .slice none 0 0]) 4 56 Tryd.underlying146 value_info rfl (by omega) (.slice A2 n0 c2) n0 X (by rfl) hownD wr.heap.size 148 1 1 zeroV (by rfl) BZ rfl (by omega) hone h63 hby hsD ?_; intro v' w' hown4 hg4; obtain ⟨g', cap', rfl⟩ := ownsRow_succ hown4) | (go_simp)
      refine shut_go hK KS ?_
      clear hK K
      refine wpSchedT_on (fun K hK => ?_)
      first | (refine step_appendB (by rfl) (.tmp 12) (.tmp 16) 146 (by rfl) (b + 1) 148 (.agg #[.int .i64 0, .int .i64 0, .string ⟨#[]⟩, .slice none 0 0]) 4 56 Tryd.underlying146 value_info rfl (by omega) (.slice A2 n0 c2) n0 X (by rfl) hownD wr.heap.size 148 1 1 zeroV (by rfl) BZ rfl (by omega) hone h63 hby hsD ?_; intro v' w' hown4 hg4; obtain ⟨g', cap', rfl⟩ := ownsRow_succ hown4) | (go_simp)
      refine shut_on hK ?_
      clear hK K
      refine wpSchedT_t ?_
      refine wpSchedT_t ?_
      refine wpSchedT_two ?_ ?_ <;> simp only [List.map_cons, List.map_nil, List.cons_append, List.nil_append]
      all_goals
        have b4 := hg4.below hownD hsD
        have BV4 := BVD.below b4 (by omega)
        have BA4 := hg4.blk hownD BAD (by decide)
        have hb4 := hbD.trans (b4.mono (by omega))
        have c4 := val_cell BV4
        have z4 := BV4.frozen 3
        have hXZ : ∀ j, (X ++ zeroV)[n0 * 4 + j]? = zeroV[j]? := fun j => by rw [List.getElem?_append_right (by omega), hXl]; congr 1; omega
        have y0 : w'.cell? ⟨g', n0 * 4, none⟩ = some (.int .i64 0) := own_cell hown4 (hXZ 0)
        have y1 : w'.cell? ⟨g', n0 * 4 + 1, none⟩ = some (.int .i64 0) := own_cell hown4 (hXZ 1)
        have y2 : w'.cell? ⟨g', n0 * 4 + 2, none⟩ = some (.string ⟨#[]⟩) := own_cell hown4 (hXZ 2)
        have y3 : w'.cell? ⟨g', n0 * 4 + 3, none⟩ = some (.slice none 0 0) := own_cell hown4 (hXZ 3)
        have f0 := own_frozen hown4 (n0 * 4)
        have f1 := own_frozen hown4 (n0 * 4 + 1)
        have f2 := own_frozen hown4 (n0 * 4 + 2)
        have f3 := own_frozen hown4 (n0 * 4 + 3)
        have hgb : b ≠ g' := by have := (OwnAt.parts hown4).2.1; omega
        clear KS hownD BZ hsD BVD BAD hbD hXZ hb BA BV hown
        go_wp2_with fail
        have hga : ga ≠ g' := by obtain ⟨_, _, cur, hB, _⟩ := OwnAt.parts hown4; exact BA4.neT hB (by decide)
        have hgab : ga ≠ b := BA4.neT BV4 (by decide)
        have hgb2 : b ≤ g' := by have := (OwnAt.parts hown4).2.1; omega
        have hsz4 : W.heap.size ≤ w'.heap.size := Nat.le_trans hsz (Nat.le_trans (by simp) b4.size)
        have hfl := fill4 hXl (.int .i64 1) (.int .i64 x) (.string ⟨#[]⟩) (.slice none 0 0)
        clear c4 z4 y0 y1 y2 y3 f0 f1 f2 f3 hone
        refine NoPanic.normal ?_
        go_wp2_with fail
      · refine ⟨⟨k + 1, _, by omega, by go_num, ((((hb4.setCell (p := ⟨g', n0 * 4, none⟩) hgb2 _).setCell (p := ⟨g', n0 * 4 + 1, none⟩) hgb2 _).setCell (p := ⟨g', n0 * 4 + 2, none⟩) hgb2 _).setCell (p := ⟨g', n0 * 4 + 3, none⟩) hgb2 _).setCell (p := ⟨b, 3, none⟩) (Nat.le_refl _) _, by simpa using hsz4, ((((BA4.far (p := ⟨g', n0 * 4, none⟩) hga _).far (p := ⟨g', n0 * 4 + 1, none⟩) hga _).far (p := ⟨g', n0 * 4 + 2, none⟩) hga _).far (p := ⟨g', n0 * 4 + 3, none⟩) hga _).far (p := ⟨b, 3, none⟩) hgab _,
          ((((BV4.far (p := ⟨g', n0 * 4, none⟩) hgb _).far (p := ⟨g', n0 * 4 + 1, none⟩) hgb _).far (p := ⟨g', n0 * 4 + 2, none⟩) hgb _).far (p := ⟨g', n0 * 4 + 3, none⟩) hgb _).set_ 3 _, ?_⟩, by simp [intOf]; omega⟩
        have := ownsRow_set (own_set (own_set (own_set (own_set hown4 (n0 * 4) (.int .i64 1)) (n0 * 4 + 1) (.int .i64 x)) (n0 * 4 + 2) (.string ⟨#[]⟩)) (n0 * 4 + 3) (.slice none 0 0)) (p := ⟨b, 3, none⟩) (by show b < b + 1; omega) (.slice (some ⟨g', 0, none⟩) (n0 + 1) cap')
        rw [hfl] at this
        have hn1 : k0 + (k + 1) = n0 + 1 := by have := hn0.out; omega
        rw [hsn.out, hn1]
        exact this
      · refine ⟨⟨k + 1, _, by omega, by go_num, ((((hb4.setCell (p := ⟨b, 3, none⟩) (Nat.le_refl _) _).setCell (p := ⟨g', n0 * 4, none⟩) hgb2 _).setCell (p := ⟨g', n0 * 4 + 1, none⟩) hgb2 _).setCell (p := ⟨g', n0 * 4 + 2, none⟩) hgb2 _).setCell (p := ⟨g', n0 * 4 + 3, none⟩) hgb2 _, by simpa using hsz4, ((((BA4.far (p := ⟨b, 3, none⟩) hgab _).far (p := ⟨g', n0 * 4, none⟩) hga _).far (p := ⟨g', n0 * 4 + 1, none⟩) hga _).far (p := ⟨g', n0 * 4 + 2, none⟩) hga _).far (p := ⟨g', n0 * 4 + 3, none⟩) hga _,
          ((((BV4.set_ 3 _).far (p := ⟨g', n0 * 4, none⟩) hgb _).far (p := ⟨g', n0 * 4 + 1, none⟩) hgb _).far (p := ⟨g', n0 * 4 + 2, none⟩) hgb _).far (p := ⟨g', n0 * 4 + 3, none⟩) hgb _, ?_⟩, by simp [intOf]; omega⟩
        have := own_set (own_set (own_set (own_set (ownsRow_set hown4 (p := ⟨b, 3, none⟩) (by show b < b + 1; omega) (.slice (some ⟨g', 0, none⟩) (n0 + 1) cap')) (n0 * 4) (.int .i64 1)) (n0 * 4 + 1) (.int .i64 x)) (n0 * 4 + 2) (.string ⟨#[]⟩)) (n0 * 4 + 3) (.slice none 0 0)
        rw [hfl] at this
        have hn1 : k0 + (k + 1) = n0 + 1 := by have := hn0.out; omega
        rw [hsn.out, hn1]
        exact this
    · have hkn : k = l.length := by omega
      clear c3 z3
      replace hkn := Lib.hid hkn
      go_wp2_with fail
      go_end0
      refine ⟨rfl, hb, v, BV, ?_⟩
      have := hkn.out
      subst this
      rw [List.take_length] at hown
      exact hown
end Go.Proofs.YtoeobcmmafncmaaDoor

/-
  codec.Encode: the text lies in a block of its own.
-/
namespace Go.Proofs.YtoeobcmmafncmaaDoor
open Go.RowKit

/-- A call that makes a slice in a block of its own. -/
def RetO (e : TypeId) (sz n : Nat) (xs : List Value) (w : World) (r : Ending) (w' : World) : Prop := ∃ v, r = .returned v ∧ Below w.heap.size w w' ∧ w'.ownsRow w.heap.size e sz v n xs
set_option maxRecDepth 100000 in
set_option maxHeartbeats 2000000 in
/-- The encoding of a list of numbers and texts lies in a block of its own. -/
theorem encode_listO (A : Option Addr) (n c : Nat) (l : List It) (W : World) (hA : Rd W W.heap.size 4 A n (l.flatMap It.cells)) (hok : ∀ x ∈ l, x.ok) (hn : n ≤ 1000) :
    Calls Tryd.prog 77 #[listV A n c] W (fun r w' => ∃ v, r = .returned (.tuple #[v, .int .i64 0]) ∧ Below W.heap.size W w' ∧ w'.ownsRow W.heap.size 5 1 v (encN l).length (byts (encN l))) := by
  have BX := Blk.new W 148 #[.int .i64 3, .int .i64 0, .string ⟨#[]⟩, .slice A n c] _ rfl
  have hb1 := bAl (bRefl W) (.cells #[.int .i64 3, .int .i64 0, .string ⟨#[]⟩, .slice A n c] 148)
  have q := check_list A n c l _ ((hA.alloc (Nat.le_refl _) (.cells #[.int .i64 3, .int .i64 0, .string ⟨#[]⟩, .slice A n c] 148)).more (by simp)) (by omega)
  unfold listV at q ⊢
  go_enter Tryd.func77, Tryd.ntmps77
  go_wp2_with fail
  with_reducible refine q.mono ?_
  rintro e w2 ⟨rfl, b2⟩
  have hb2 := bCall hb1 b2
  have BX2 := BX.below b2 BX.lt
  clear q hb1 b2 BX
  go_wp2_with fail
  have d0 : w2.cell? ⟨W.heap.size, 0, none⟩ = some (.int .i64 3) := BX2.cell 0
  have d1 : w2.cell? ⟨W.heap.size, 1, none⟩ = some (.int .i64 0) := BX2.cell 1
  have d2 : w2.cell? ⟨W.heap.size, 2, none⟩ = some (.string ⟨#[]⟩) := BX2.cell 2
  have d3 : w2.cell? ⟨W.heap.size, 3, none⟩ = some (.slice A n c) := BX2.cell 3
  have hlt := BX2.lt
  go_cut [2, 3] (fun s2 s3 wc => ∃ v, s2 = v ∧ s3 = .int .i64 0 ∧ Below W.heap.size W wc ∧ wc.ownsRow W.heap.size 5 1 v (encN l).length (byts (encN l)))
  case first =>
    go_region_with (first
      | (go_at_call 85; refine (writer_any _).mono ?_; rintro e w3 ⟨rfl, b3, hw3⟩; have BX3 := BX2.below ((bDr (bRefl w2)).trans b3) hlt; obtain ⟨f0, f1, f2, f3⟩ := box_cells BX3; have hw4 : WrB w3 w2.heap.size := hw3; have g3 := hw4.list; have hb3 := (bDr hb2).trans (b3.mono hb2.size); have hs3 : W.heap.size ≤ w3.heap.size := hb3.size; clear b3)
      | (go_at_call 96; refine (write_list A n c _ l _ ((hA.below hb3).more hb3.size) hw4 hok hn).mono ?_; rintro e w4 ⟨v, rfl, hown4, b4⟩; have hb4 := bCall hb3 b4))
    all_goals
      go_wp2_with fail
      go_meet
      exact ⟨_, rfl, rfl, hb4, own_base hown4 hs3⟩
  case rest =>
    obtain ⟨v, rfl, rfl, hb, hv⟩ := hcut
    go_wp2_with fail
    go_ret2
    exact ⟨_, rfl, hb, hv⟩

end Go.Proofs.YtoeobcmmafncmaaDoor
