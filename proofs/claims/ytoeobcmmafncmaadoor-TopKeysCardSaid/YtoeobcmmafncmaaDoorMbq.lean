/-
  handover: text; walked.
-/
import Derived.Test.YtoeobcmmafncmaaDoorMbp
import Derived.Test.YtoeobcmmafncmaaDoorMbc
import Derived.Test.YtoeobcmmafncmaaDoorMav
import Derived.Test.YtoeobcmmafncmaaDoorMbd
import Derived.Test.YtoeobcmmafncmaaDoorMax
import Derived.Test.YtoeobcmmafncmaaDoorMbj
import Derived.Test.YtoeobcmmafncmaaDoorMbk
namespace Go.Proofs.YtoeobcmmafncmaaDoor
open Go.RowKit

/-- A number, a run, a cipher or a digest. -/
inductive Tx where
  | int (n : Int)
  | run (a b c : Int)
  | ciph (a b : Int)
  | dig (d : List Nat)
def Tx.val : Tx → Value
  | .int n => .iface 3 (.int .i64 n)
  | .run a b c => .iface 28 (.agg #[.int .i64 a, .int .i64 b, .int .i64 c])
  | .ciph a b => .iface 52 (.agg #[.int .i64 a, .int .i64 b])
  | .dig d => .iface 30 (.agg (byts d).toArray)
def Tx.its : Tx → List It
  | .int n => [.int n]
  | .run a b c => [.int a, .int b, .int c]
  | .ciph a b => [.int a, .int b]
  | .dig d => [.text (dgS d)]
def Tx.ok : Tx → Prop
  | .int n => inI n
  | .run a b c => inI a ∧ inI b ∧ inI c
  | .ciph a b => inI a ∧ inI b
  | .dig d => d.length = 32 ∧ okB d
theorem Tx.its_ok {x : Tx} (h : x.ok) : ∀ y ∈ x.its, y.ok := by
  cases x with
  | int n => intro y hy; simp [Tx.its] at hy; subst hy; exact h
  | run a b c => intro y hy; simp [Tx.its] at hy; rcases hy with rfl | rfl | rfl; exact h.1; exact h.2.1; exact h.2.2
  | ciph a b => intro y hy; simp [Tx.its] at hy; rcases hy with rfl | rfl; exact h.1; exact h.2
  | dig d => intro y hy; simp [Tx.its] at hy; subst hy; exact Nd.it_ok (x := .dig d) h
theorem Tx.len3 (x : Tx) : x.its.length ≤ 3 := by cases x <;> simp [Tx.its]
theorem txs_len : ∀ l : List Tx, (l.flatMap Tx.its).length ≤ 3 * l.length
  | [] => by simp
  | x :: l => by
    have := txs_len l
    have := Tx.len3 x
    simp only [List.flatMap_cons, List.length_append, List.length_cons]; omega
theorem txs_take (l : List Tx) (k : Nat) : ((l.take k).flatMap Tx.its).length ≤ 3 * k := by
  have h1 := txs_len (l.take k)
  have h2 : (l.take k).length ≤ k := by rw [List.length_take]; omega
  omega
theorem txs_succ {l : List Tx} {k : Nat} {x : Tx} (h : l[k]? = some x) : (l.take (k + 1)).flatMap Tx.its = (l.take k).flatMap Tx.its ++ x.its := by
  obtain ⟨hk, rfl⟩ := List.getElem?_eq_some_iff.1 h
  rw [List.take_succ_eq_append_getElem hk, List.flatMap_append]; simp
theorem asRun_int (cs : Array Value) (w : World) : (Instr.typeAssert (.iface 28 (.agg cs)) 20 3 true).run Tryd.prog w = .ok (.tuple #[.int .i64 0, .bool false]) w := by kernel_rfl
theorem asCip_int (cs : Array Value) (w : World) : (Instr.typeAssert (.iface 52 (.agg cs)) 20 3 true).run Tryd.prog w = .ok (.tuple #[.int .i64 0, .bool false]) w := by kernel_rfl
theorem asRun_run (cs : Array Value) (w : World) : (Instr.typeAssert (.iface 28 (.agg cs)) 20 28 true).run Tryd.prog w = .ok (.tuple #[.agg cs, .bool true]) w := by kernel_rfl
theorem asCip_run (cs : Array Value) (w : World) : (Instr.typeAssert (.iface 52 (.agg cs)) 20 28 true).run Tryd.prog w = .ok (.tuple #[.agg #[.int .i64 0, .int .i64 0, .int .i64 0], .bool false]) w := by kernel_rfl
theorem asDig_run (cs : Array Value) (w : World) : (Instr.typeAssert (.iface 30 (.agg cs)) 20 28 true).run Tryd.prog w = .ok (.tuple #[.agg #[.int .i64 0, .int .i64 0, .int .i64 0], .bool false]) w := by kernel_rfl
theorem asCip_cip (cs : Array Value) (w : World) : (Instr.typeAssert (.iface 52 (.agg cs)) 20 52 true).run Tryd.prog w = .ok (.tuple #[.agg cs, .bool true]) w := by kernel_rfl
theorem asDig_cip (cs : Array Value) (w : World) : (Instr.typeAssert (.iface 30 (.agg cs)) 20 52 true).run Tryd.prog w = .ok (.tuple #[.agg #[.int .i64 0, .int .i64 0], .bool false]) w := by kernel_rfl

set_option maxRecDepth 100000 in
set_option maxHeartbeats 4000000 in
theorem ho_text (A : Option Addr) (n c : Nat) (l : List Tx) (W : World) (hA : Rd W W.heap.size 1 A n (l.map Tx.val)) (hok : ∀ x ∈ l, x.ok) (hn : n ≤ 20) :
    Calls Tryd.prog 69 #[.slice A n c] W (RetO 5 1 (encN (l.flatMap Tx.its)).length (byts (encN (l.flatMap Tx.its))) W) := by
  obtain rfl : l.length = n := by have := hA.1; rw [List.length_map, Nat.mul_one] at this; exact this
  go_enter Tryd.func69, Tryd.ntmps69
  go_wp2_with fail
  have BV := Blk.new W 148 #[.int .i64 3, .int .i64 0, .string ⟨#[]⟩, .slice none 0 0] _ rfl
  have hb := bAl (bRefl W) (.cells #[.int .i64 3, .int .i64 0, .string ⟨#[]⟩, .slice none 0 0] 148)
  generalize W.alloc (.cells #[.int .i64 3, .int .i64 0, .string ⟨#[]⟩, .slice none 0 0] 148) = w1 at *
  go_loopw [17] (fun i wr => ∃ (k : Nat) (v : Value) (m : Nat), k ≤ l.length ∧ i = .int .i64 k ∧ m = ((l.take k).flatMap Tx.its).length ∧ Below W.heap.size W wr ∧ Blk wr W.heap.size 148 #[.int .i64 3, .int .i64 0, .string ⟨#[]⟩, v] ∧ wr.ownsRow (W.heap.size + 1) 148 4 v m (((l.take k).flatMap Tx.its).flatMap It.cells)) (fun i _ => l.length - (intOf i).toNat)
  case atStart => exact ⟨0, _, 0, Nat.zero_le _, rfl, rfl, hb, BV, World.ownsRow_nil _ _ _ _⟩
  case round =>
    clear hb BV
    obtain ⟨k, v, m, hk, rfl, hm, hb, BV, hown⟩ := hrel
    by_cases hlt : k < l.length
    · obtain ⟨x, hx⟩ : ∃ x, Hid (l[k]? = some x) := ⟨_, Lib.hid (List.getElem?_eq_getElem hlt)⟩
      obtain ⟨b, off, rfl, hbb, hc⟩ := (hA.below hb).2 (by omega)
      have d0 : wr.cell? ⟨b, off + k, none⟩ = some x.val := hc k _ (by rw [List.getElem?_map, hx.out]; rfl)
      clear hc
      have hsn := Lib.hid (txs_succ hx.out)
      have hm60 := txs_take l k
      rw [← hm] at hm60
      replace hm := Lib.hid hm
      have hbs : W.heap.size + 1 ≤ wr.heap.size := BV.lt
      have hxok := hok x (List.mem_of_getElem? hx.out)
      generalize hX : ((l.take k).flatMap Tx.its).flatMap It.cells = X at *
      replace hX := Lib.hid hX
      cases x with
      | int a =>
        have ta := assert_int a
        change wr.cell? ⟨b, off + k, none⟩ = some (.iface 3 (.int .i64 a)) at d0
        have q := ho_put wr.heap.size 1 [a] (wr.alloc (.cells #[.int .i64 a] 3)) W.heap.size m v X (Blk.new wr _ _ _ rfl) (by simp) (by omega) (BV.alloc _) (hown.alloc _)
        simp only [List.length_cons, List.length_nil, Nat.zero_add] at q
        go_wp2_with fail
        (with_reducible refine q.mono ?_)
        rintro e w5 ⟨rfl, b5, v5, BV5, hown5⟩
        clear q d0 ta
        go_wp2_with fail
        exact ⟨⟨k + 1, v5, m + 1, by omega, by go_num, by rw [hsn.out, List.length_append, ← hm.out]; rfl, (bAl hb _).trans b5, BV5, by rw [hsn.out, List.flatMap_append, hX.out]; exact hown5⟩, by simp [intOf]; omega⟩
      | run a1 a2 a3 =>
        have ta := asRun_int #[.int .i64 a1, .int .i64 a2, .int .i64 a3]
        have tb := asRun_run #[.int .i64 a1, .int .i64 a2, .int .i64 a3]
        change wr.cell? ⟨b, off + k, none⟩ = some (.iface 28 (.agg #[.int .i64 a1, .int .i64 a2, .int .i64 a3])) at d0
        go_upto_region 12 with fail
        have BR := Blk.new wr 28 #[.int .i64 a1, .int .i64 a2, .int .i64 a3] _ rfl
        have BV1 := BV.alloc (.cells #[.int .i64 a1, .int .i64 a2, .int .i64 a3] 28)
        have hown1 := hown.alloc (.cells #[.int .i64 a1, .int .i64 a2, .int .i64 a3] 28)
        have hb1 := bAl hb (.cells #[.int .i64 a1, .int .i64 a2, .int .i64 a3] 28)
        clear ta tb d0 BV hown
        generalize wr.alloc (.cells #[.int .i64 a1, .int .i64 a2, .int .i64 a3] 28) = w2 at *
        generalize wr.heap.size = g7 at *
        obtain ⟨r0, r1, r2⟩ := three BR
        have q := ho_put w2.heap.size 3 [a1, a2, a3] (w2.alloc (.cells #[.int .i64 a1, .int .i64 a2, .int .i64 a3] 3)) W.heap.size m v X (Blk.new w2 _ _ _ rfl) (by simp) (by omega) (BV1.alloc _) (hown1.alloc _)
        simp only [List.length_cons, List.length_nil, Nat.zero_add, Nat.reduceAdd] at q
        go_wp2_with fail
        (with_reducible refine q.mono ?_)
        rintro e w5 ⟨rfl, b5, v5, BV5, hown5⟩
        clear q r0 r1 r2
        go_wp2_with fail
        exact ⟨⟨k + 1, v5, m + 3, by omega, by go_num, by rw [hsn.out, List.length_append, ← hm.out]; rfl, (bAl hb1 _).trans b5, BV5, by rw [hsn.out, List.flatMap_append, hX.out]; exact hown5⟩, by simp [intOf]; omega⟩
      | ciph a1 a2 =>
        have ta := asCip_int #[.int .i64 a1, .int .i64 a2]
        have tb := asCip_run #[.int .i64 a1, .int .i64 a2]
        have tc := asCip_cip #[.int .i64 a1, .int .i64 a2]
        change wr.cell? ⟨b, off + k, none⟩ = some (.iface 52 (.agg #[.int .i64 a1, .int .i64 a2])) at d0
        go_upto_region 15 with fail
        have BR := Blk.new wr 52 #[.int .i64 a1, .int .i64 a2] _ rfl
        have BV1 := BV.alloc (.cells #[.int .i64 a1, .int .i64 a2] 52)
        have hown1 := hown.alloc (.cells #[.int .i64 a1, .int .i64 a2] 52)
        have hb1 := bAl hb (.cells #[.int .i64 a1, .int .i64 a2] 52)
        clear ta tb tc d0 BV hown
        generalize wr.alloc (.cells #[.int .i64 a1, .int .i64 a2] 52) = w2 at *
        generalize wr.heap.size = g7 at *
        have r0 : w2.cell? ⟨g7, 0, none⟩ = some (.int .i64 a1) := BR.cell 0
        have r1 : w2.cell? ⟨g7, 1, none⟩ = some (.int .i64 a2) := BR.cell 1
        have q := ho_put w2.heap.size 2 [a1, a2] (w2.alloc (.cells #[.int .i64 a1, .int .i64 a2] 3)) W.heap.size m v X (Blk.new w2 _ _ _ rfl) (by simp) (by omega) (BV1.alloc _) (hown1.alloc _)
        simp only [List.length_cons, List.length_nil, Nat.zero_add, Nat.reduceAdd] at q
        go_wp2_with fail
        (with_reducible refine q.mono ?_)
        rintro e w5 ⟨rfl, b5, v5, BV5, hown5⟩
        clear q r0 r1
        go_wp2_with fail
        exact ⟨⟨k + 1, v5, m + 2, by omega, by go_num, by rw [hsn.out, List.length_append, ← hm.out]; rfl, (bAl hb1 _).trans b5, BV5, by rw [hsn.out, List.flatMap_append, hX.out]; exact hown5⟩, by simp [intOf]; omega⟩
      | dig d =>
        have ta := assert_int_no (byts d).toArray
        have tb := asDig_run (byts d).toArray
        have tc := asDig_cip (byts d).toArray
        have td := assert_dig (byts d).toArray
        change wr.cell? ⟨b, off + k, none⟩ = some (.iface 30 (.agg (byts d).toArray)) at d0
        obtain ⟨hd1, hd2⟩ := hxok
        have st1 := store_dig d hd1
        have hbl : (byts d).length = 32 := by rw [byts_length, hd1]
        obtain ⟨A2, c2, hv, _⟩ := Sl.of_own hown
        subst hv
        have h63 : m + 1 ≤ maxLen := by unfold maxLen; omega
        have hby : (m + 1) * 56 ≤ 140737488355328 := by omega
        have hXl : X.length = m * 4 := hown.1
        go_upto_region 18 with fail
        have BD := Blk.new wr 30 (byts d).toArray _ rfl
        have BV1 := BV.alloc (.cells (byts d).toArray 30)
        have hown1 := hown.alloc (.cells (byts d).toArray 30)
        have hb1 := bAl hb (.cells (byts d).toArray 30)
        have hs1 : W.heap.size + 1 ≤ (wr.alloc (.cells (byts d).toArray 30)).heap.size := by simp; omega
        generalize wr.alloc (.cells (byts d).toArray 30) = w2 at *
        generalize wr.heap.size = g7 at *
        have KS : Hid (∀ w', Below w2.heap.size w2 w' → _) := Lib.hid (fun w' h => And.intro (val_cell (BV1.below h BV1.lt)) (convert_dig (BD.below h BD.lt) hd1 hd2))
        clear d0 ta tb tc td st1 hbl BV hown hb BD
        have hownD : (w2.alloc (.cells #[.int .i64 0, .int .i64 0, .string ⟨#[]⟩, .slice none 0 0] 148)).drew.ownsRow (W.heap.size + 1) 148 4 (.slice A2 m c2) m X := ownsRow_keep hown1 (bDr (bAl (bRefl w2) _))
        have BZ : Blk (w2.alloc (.cells #[.int .i64 0, .int .i64 0, .string ⟨#[]⟩, .slice none 0 0] 148)).drew w2.heap.size 148 zeroV.toArray := Blk.dw (Blk.new w2 _ _ _ rfl)
        have hsD : W.heap.size + 1 ≤ (w2.alloc (.cells #[.int .i64 0, .int .i64 0, .string ⟨#[]⟩, .slice none 0 0] 148)).drew.heap.size := by show W.heap.size + 1 ≤ (w2.alloc _).heap.size; simp; omega
        have BVD : Blk (w2.alloc (.cells #[.int .i64 0, .int .i64 0, .string ⟨#[]⟩, .slice none 0 0] 148)).drew W.heap.size 148 #[.int .i64 3, .int .i64 0, .string ⟨#[]⟩, .slice A2 m c2] := Blk.dw (BV1.alloc _)
        have hbD : Below W.heap.size W (w2.alloc (.cells #[.int .i64 0, .int .i64 0, .string ⟨#[]⟩, .slice none 0 0] 148)).drew := bDr (bAl hb1 _)
        have hone : ∀ u ∈ zeroV, u.oneCell' = true := by intro u hu; simp [zeroV] at hu; rcases hu with rfl | rfl | rfl | rfl <;> rfl
        have hlt1 : (m : Int) < (m : Int) + 1 := by omega
        refine wp_region_schT (f := 7) KS [(0, 1), (1, 2), (2, 1), (3, 2), (4, 1), (5, 1), (6, 0), (7, 3), (8, 1), (10, 1), (9, 4), (11, 4)] ?_
        simp only [pickS, List.getElem?_cons_zero, List.getElem?_cons_succ]
        refine wpSchedT_t ?_
        refine wpSchedT_r ?_
        refine wpSchedT_t ?_
        refine wpSchedT_r ?_
        refine wpSchedT_t ?_
        refine wpSchedT_t ?_
        refine wpSchedT_force (fun K hK => ?_)
        first | (refine step_appendB (by rfl) (.tmp 55) (.tmp 60) 146 (by rfl) (W.heap.size + 1) 148 (.agg #[.int .i64 0, .int .i64 0, .string ⟨#[]⟩, .slice none 0 0]) 4 56 Tryd.underlying146 value_info rfl (by omega) (.slice A2 m c2) m X (by rfl) hownD w2.heap.size 148 1 1 zeroV (by rfl) BZ rfl (by omega) hone h63 hby hsD ?_; intro v' w' hown4 hg4; obtain ⟨g', cap', rfl⟩ := ownsRow_succ hown4) | (go_simp)
        refine shut_go hK KS ?_
        clear hK K
        refine wpSchedT_on (fun K hK => ?_)
        first | (refine step_appendB (by rfl) (.tmp 55) (.tmp 60) 146 (by rfl) (W.heap.size + 1) 148 (.agg #[.int .i64 0, .int .i64 0, .string ⟨#[]⟩, .slice none 0 0]) 4 56 Tryd.underlying146 value_info rfl (by omega) (.slice A2 m c2) m X (by rfl) hownD w2.heap.size 148 1 1 zeroV (by rfl) BZ rfl (by omega) hone h63 hby hsD ?_; intro v' w' hown4 hg4; obtain ⟨g', cap', rfl⟩ := ownsRow_succ hown4) | (go_simp)
        refine shut_on hK ?_
        clear hK K
        refine wpSchedT_t ?_
        refine wpSchedT_t ?_
        refine wpSchedT_two ?_ ?_ <;> simp only [List.map_cons, List.map_nil, List.cons_append, List.nil_append]
        all_goals
          have b4 := hg4.below hownD hsD
          have BV4 := BVD.below b4 (by omega)
          have hb4 := hbD.trans (b4.mono (by omega))
          have c4 := val_cell BV4
          have z4 := BV4.frozen 3
          have hXZ : ∀ j, (X ++ zeroV)[m * 4 + j]? = zeroV[j]? := fun j => by rw [List.getElem?_append_right (by omega), hXl]; congr 1; omega
          have y0 : w'.cell? ⟨g', m * 4, none⟩ = some (.int .i64 0) := own_cell hown4 (hXZ 0)
          have y1 : w'.cell? ⟨g', m * 4 + 1, none⟩ = some (.int .i64 0) := own_cell hown4 (hXZ 1)
          have y2 : w'.cell? ⟨g', m * 4 + 2, none⟩ = some (.string ⟨#[]⟩) := own_cell hown4 (hXZ 2)
          have y3 : w'.cell? ⟨g', m * 4 + 3, none⟩ = some (.slice none 0 0) := own_cell hown4 (hXZ 3)
          have f0 := own_frozen hown4 (m * 4)
          have f1 := own_frozen hown4 (m * 4 + 1)
          have f2 := own_frozen hown4 (m * 4 + 2)
          have f3 := own_frozen hown4 (m * 4 + 3)
          have hgb : W.heap.size ≠ g' := by have := (OwnAt.parts hown4).2.1; omega
          clear KS hownD BZ hsD BVD hbD hXZ hown1 BV1 hb1
          go_wp2_with fail
          have hgb2 : W.heap.size ≤ g' := by have := (OwnAt.parts hown4).2.1; omega
          have hfl := fill4 hXl (.int .i64 2) (.int .i64 0) (.string (dgS d)) (.slice none 0 0)
          clear c4 z4 y0 y1 y2 y3 f0 f1 f2 f3 hone
          refine NoPanic.normal ?_
          go_wp2_with fail
        · refine ⟨⟨k + 1, .slice (some ⟨g', 0, none⟩) (m + 1) cap', m + 1, by omega, by go_num, by rw [hsn.out, List.length_append, ← hm.out]; rfl, ((((hb4.setCell (p := ⟨g', m * 4, none⟩) hgb2 _).setCell (p := ⟨g', m * 4 + 1, none⟩) hgb2 _).setCell (p := ⟨g', m * 4 + 2, none⟩) hgb2 _).setCell (p := ⟨g', m * 4 + 3, none⟩) hgb2 _).setCell (p := ⟨W.heap.size, 3, none⟩) (Nat.le_refl _) _,
            ((((BV4.far (p := ⟨g', m * 4, none⟩) hgb _).far (p := ⟨g', m * 4 + 1, none⟩) hgb _).far (p := ⟨g', m * 4 + 2, none⟩) hgb _).far (p := ⟨g', m * 4 + 3, none⟩) hgb _).set_ 3 _, ?_⟩, by simp [intOf]; omega⟩
          have := ownsRow_set (own_set (own_set (own_set (own_set hown4 (m * 4) (.int .i64 2)) (m * 4 + 1) (.int .i64 0)) (m * 4 + 2) (.string (dgS d))) (m * 4 + 3) (.slice none 0 0)) (p := ⟨W.heap.size, 3, none⟩) (by show W.heap.size < W.heap.size + 1; omega) (.slice (some ⟨g', 0, none⟩) (m + 1) cap')
          rw [hfl] at this
          rw [hsn.out, List.flatMap_append, hX.out]
          exact this
        · refine ⟨⟨k + 1, .slice (some ⟨g', 0, none⟩) (m + 1) cap', m + 1, by omega, by go_num, by rw [hsn.out, List.length_append, ← hm.out]; rfl, ((((hb4.setCell (p := ⟨W.heap.size, 3, none⟩) (Nat.le_refl _) _).setCell (p := ⟨g', m * 4, none⟩) hgb2 _).setCell (p := ⟨g', m * 4 + 1, none⟩) hgb2 _).setCell (p := ⟨g', m * 4 + 2, none⟩) hgb2 _).setCell (p := ⟨g', m * 4 + 3, none⟩) hgb2 _,
            ((((BV4.set_ 3 _).far (p := ⟨g', m * 4, none⟩) hgb _).far (p := ⟨g', m * 4 + 1, none⟩) hgb _).far (p := ⟨g', m * 4 + 2, none⟩) hgb _).far (p := ⟨g', m * 4 + 3, none⟩) hgb _, ?_⟩, by simp [intOf]; omega⟩
          have := own_set (own_set (own_set (own_set (ownsRow_set hown4 (p := ⟨W.heap.size, 3, none⟩) (by show W.heap.size < W.heap.size + 1; omega) (.slice (some ⟨g', 0, none⟩) (m + 1) cap')) (m * 4) (.int .i64 2)) (m * 4 + 1) (.int .i64 0)) (m * 4 + 2) (.string (dgS d))) (m * 4 + 3) (.slice none 0 0)
          rw [hfl] at this
          rw [hsn.out, List.flatMap_append, hX.out]
          exact this
    · have hkn : k = l.length := by omega
      rw [hkn, List.take_length] at hown hm
      clear hkn
      obtain ⟨A2, c2, hv, hR, _⟩ := Sl.of_own hown
      subst hv
      have e0 : wr.cell? ⟨W.heap.size, 0, none⟩ = some (.int .i64 3) := BV.cell 0
      have e1 : wr.cell? ⟨W.heap.size, 1, none⟩ = some (.int .i64 0) := BV.cell 1
      have e2 : wr.cell? ⟨W.heap.size, 2, none⟩ = some (.string ⟨#[]⟩) := BV.cell 2
      have e3 : wr.cell? ⟨W.heap.size, 3, none⟩ = some (.slice A2 m c2) := BV.cell 3
      have hml : m ≤ 60 := by
        have := txs_len l
        rw [hm]; omega
      have q := encode_listO A2 m c2 (l.flatMap Tx.its) wr hR (by
        intro x hx
        obtain ⟨y, hy, hx⟩ := List.mem_flatMap.1 hx
        exact Tx.its_ok (hok y hy) x hx) (by omega)
      unfold listV at q
      replace hm := Lib.hid hm
      generalize encN (l.flatMap Tx.its) = E at *
      go_wp2_with fail
      with_reducible refine q.mono ?_
      rintro e w5 ⟨v, rfl, b5, hv⟩
      have hb5 := bCall hb b5
      have hv2 := own_base hv hb.size
      clear q e0 e1 e2 e3
      go_wp2_with fail
      go_ret
      exact ⟨_, rfl, hb5, hv2⟩
end Go.Proofs.YtoeobcmmafncmaaDoor

/-
  handover: leaves; walked. The texts that lie in blocks of their own.
-/
namespace Go.Proofs.YtoeobcmmafncmaaDoor
open Go.RowKit
attribute [local go_sem] Oper.semAt_some

/-- A slice of bytes at the head of a block of bytes. -/
def TxAt (w : World) (v : Value) (t : List Nat) : Prop := ∃ (g cap : Nat) (cur : Array Value), v = .slice (some ⟨g, 0, none⟩) t.length cap ∧ Blk w g 5 cur ∧ t.length ≤ cap ∧ cap ≤ maxLen ∧ ∀ (j : Nat) (u : Value), (byts t)[j]? = some u → cur[j]? = some u
theorem TxAt.of_own {w : World} {base : Nat} {v : Value} {t : List Nat} (h : w.ownsRow base 5 1 v t.length (byts t)) (h0 : 0 < t.length) : TxAt w v t := by
  rcases h.2 with ⟨_, h2⟩ | ⟨g, cap, cur, hv, hb, hg, hnc, hcm, hcs, htk⟩
  · omega
  · refine ⟨g, cap, cur, hv, hg, hnc, hcm, fun j u hu => ?_⟩
    rw [← htk, List.getElem?_take] at hu
    split at hu
    · simpa using hu
    · cases hu
theorem TxAt.kept {w w' : World} {v : Value} {t : List Nat} {row : Option Nat} {B : Nat} (h : TxAt w v t) (hg : w.grownBy w' row) (hr : ∀ r, row = some r → B ≤ r ∧ ∃ o : Obj, w.heap[r]? = some o ∧ o.isCells = false) : TxAt w' v t := by
  obtain ⟨g, cap, cur, hv, hB, h1⟩ := h
  exact ⟨g, cap, cur, hv, hB.kept hg hr, h1⟩
theorem TxAt.sl {w : World} {v : Value} {t : List Nat} (h : TxAt w v t) : Sl w w.heap.size 1 v t.length (byts t) := by
  obtain ⟨g, cap, cur, rfl, hB, h1, h2, h3⟩ := h
  exact ⟨_, _, rfl, ⟨by rw [byts_length, Nat.mul_one], fun _ => ⟨g, 0, rfl, hB.lt, fun j u hu => by rw [Nat.zero_add, hB.cell]; exact h3 j u hu⟩⟩, h1, h2, fun h => by cases h⟩
theorem TxAt.below {w w' : World} {v : Value} {t : List Nat} (h : TxAt w v t) (hb : Below w.heap.size w w') : TxAt w' v t := by
  obtain ⟨g, cap, cur, hv, hB, h1⟩ := h
  exact ⟨g, cap, cur, hv, hB.below hb hB.lt, h1⟩
theorem encN_pos (l : List It) : 0 < (encN l).length := by unfold encN; simp
def Ltr.ok (x : Ltr) : Prop := (inI x.a0 ∧ inI x.b0) ∧ (inI x.a1 ∧ inI x.b1) ∧ (inI x.a2 ∧ inI x.b2)

theorem leaves_any (A : Option Addr) (n c : Nat) (w : World) :
    Calls Tryd.prog 39 #[.slice A n c] w fun r w' =>
      r = .returned (.func (.func 68) #[] #[.pointer (some ⟨w.heap.size, 0, none⟩)]) ∧ w' = w.alloc (.cells #[.slice A n c] 48) := by
  have hmf : ∀ (fn : Fn) (first cap : Array Value) (w : World), (Instr.makeFunc fn first cap).run Tryd.prog w = .ok (.func fn first cap) w := fun _ _ _ _ => rfl
  go_enter Tryd.func39, Tryd.ntmps39
  go_wp2
  go_ret
  exact ⟨rfl, rfl⟩

set_option maxRecDepth 100000 in
set_option maxHeartbeats 4000000 in
theorem leaves_stops (bp B : Nat) (K : Nat → Prop) (hbp : K bp) (A : Option Addr) (c : Nat) (l : List Ltr) (hok : ∀ x ∈ l, x.ok) (w : World) (hKB : ∀ k, k < B → K k) (hB : Blk w bp 48 #[.slice A l.length c])
    (hA : Rd w B 6 A l.length (l.flatMap Ltr.cl)) (hBw : B ≤ w.heap.size) (hn : l.length ≤ 1000) :
    SeqG (2 + 1) Tryd.prog 68 #[.pointer (some ⟨bp, 0, none⟩)] (fun v : Value => #[v]) (KeepsC K) (fun ys => ys.length = l.length) (fun _ => True) l.length w (fun pre v W => ∃ t, (l.map Ltr.txt)[pre.length]? = some t ∧ TxAt W v t) := by
  intro L J Jx W hW hJ _ hY h0
  replace hB := hB.below hW hB.lt
  replace hA := hA.below (hW.mono hBw)
  have hBW : B ≤ W.heap.size := Nat.le_trans hBw hW.size
  clear hW
  refine callsIn_of_wp Tryd.func68 rfl trivial ?_ rfl
  simp only [Tryd.ntmps68, List.size_toArray, List.length_cons, List.length_nil, Nat.reduceAdd, Nat.reduceSub, Array.replicate_succ, Array.replicate_zero, List.push_toArray, List.append_toArray, List.nil_append, List.cons_append]
  have c1 : W.cell? ⟨bp, 0, none⟩ = some (.slice A l.length c) := hB.cell 0
  gi_wp2
  gi_loopw [7] (fun i wr => ∃ (pre : List Value) (k : Nat), i = .int .i64 k ∧ Hid (pre.length = k) ∧ k ≤ l.length ∧ W.heap.size ≤ wr.heap.size ∧ Blk wr bp 48 #[.slice A l.length c] ∧ Rd wr B 6 A l.length (l.flatMap Ltr.cl) ∧ J pre wr) (fun i _ => l.length - (intOf i).toNat)
  case atStart => exact ⟨[], 0, rfl, Lib.hid rfl, Nat.zero_le _, Nat.le_refl _, hB, hA, h0⟩
  case round =>
    clear hB h0 c1 hA
    obtain ⟨pre, k, rfl, hpk, hk, hsz, hB, hA, hJ1⟩ := hrel
    by_cases hlt : k < l.length
    · obtain ⟨x, hx⟩ : ∃ x, Hid (l[k]? = some x) := ⟨_, Lib.hid (List.getElem?_eq_getElem hlt)⟩
      have hxo := hok x (List.mem_of_getElem? hx.out)
      obtain ⟨b, off, rfl, hbb, k0, k1, k2, k3, k4, k5⟩ := Ltr_at hA hlt hx.out
      refine wpIn_wide.2 ?_
      go_upto_region 3 with fail
      have BS := Blk.new wr 54 #[.int .i64 x.a0, .int .i64 x.b0, .int .i64 x.a1, .int .i64 x.b1, .int .i64 x.a2, .int .i64 x.b2] _ rfl
      have hb1 := bAl (bRefl wr) (.cells #[.int .i64 x.a0, .int .i64 x.b0, .int .i64 x.a1, .int .i64 x.b1, .int .i64 x.a2, .int .i64 x.b2] 54)
      clear k0 k1 k2 k3 k4 k5
      generalize wr.alloc (.cells #[.int .i64 x.a0, .int .i64 x.b0, .int .i64 x.a1, .int .i64 x.b1, .int .i64 x.a2, .int .i64 x.b2] 54) = w2 at *
      obtain ⟨k0, k1, k2, k3, k4, k5⟩ := BS.six
      have q := ho_text (some ⟨w2.heap.size, 0, none⟩) 3 3 [.ciph x.a0 x.b0, .ciph x.a1 x.b1, .ciph x.a2 x.b2] (w2.alloc (.cells #[.iface 52 (.agg #[.int .i64 x.a0, .int .i64 x.b0]), .iface 52 (.agg #[.int .i64 x.a1, .int .i64 x.b1]), .iface 52 (.agg #[.int .i64 x.a2, .int .i64 x.b2])] 20))
        (Rd.new w2 _ _ 1 3 _ rfl rfl) (by intro y hy; simp at hy; rcases hy with rfl | rfl | rfl; exact hxo.1; exact hxo.2.1; exact hxo.2.2) (by decide)
      have hb2 := bAl hb1 (.cells #[.iface 52 (.agg #[.int .i64 x.a0, .int .i64 x.b0]), .iface 52 (.agg #[.int .i64 x.a1, .int .i64 x.b1]), .iface 52 (.agg #[.int .i64 x.a2, .int .i64 x.b2])] 20)
      have htx : Hid (encN (List.flatMap Tx.its [.ciph x.a0 x.b0, .ciph x.a1 x.b1, .ciph x.a2 x.b2]) = x.txt) := Lib.hid rfl
      generalize encN (List.flatMap Tx.its [.ciph x.a0 x.b0, .ciph x.a1 x.b1, .ciph x.a2 x.b2]) = T at *
      refine (wpIn_wide (n := 3)).1 ?_
      gi_wp2
      refine ⟨trivial, ?_⟩
      (with_reducible refine (callsIn_wide.2 q).mono ?_)
      rintro e w5 ⟨v5, rfl, b5, hown5⟩
      have hb5 := bCall hb2 b5
      have hT := TxAt.of_own hown5 (by rw [htx.out]; exact encN_pos _)
      rw [htx.out] at hT
      have hJ5 := hJ _ _ _ none hJ1 (grownBy_below hb5 none) (by intro r e; cases e)
      have hB5 := hB.below hb5 hB.lt
      have hA5 := hA.below (hb5.mono (by omega))
      have hsz5 := Nat.le_trans hsz hb5.size
      obtain ⟨fn, tmps, assign, body, hy, hR⟩ := hY pre v5 w5 hJ5 ⟨x.txt, by rw [hpk.out, List.getElem?_map, hx.out]; rfl, hT⟩ (by rw [hpk.out]; exact hlt)
      clear q k0 k1 k2 k3 k4 k5 hown5 hY
      gi_wp2
      refine hR.mono ?_
      rintro e W3 (⟨rfl, hJ3, hk3⟩ | ⟨rfl, hJx3⟩)
      · have hB3 := hk3.blk hbp hB5
        have hA3 := hk3.rd hKB hA5
        have hs3 := Nat.le_trans hsz5 hk3.1
        clear hy hB5 hA5 hB hA
        gi_wp2
        go_wp2_with fail
        exact ⟨⟨pre ++ [v5], k + 1, by go_num, by show _ = _; rw [List.length_append, hpk.out]; rfl, by omega, hs3, hB3, hA3, hJ3⟩, by simp [intOf]; omega⟩
      · gi_wp2
        go_wp2_with fail
        refine bodyPost_ret (results_none rfl _ _ _) rfl ?_
        exact ⟨⟨_, rfl⟩, .inr ⟨_, trivial, hJx3⟩⟩
    · gi_wp2
      go_end0
      exact ⟨⟨_, rfl⟩, .inl ⟨pre, by have := hpk.out; omega, hJ1⟩⟩
end Go.Proofs.YtoeobcmmafncmaaDoor
