/-
  equal.Bare, walked.
-/
import Derived.Test.YtoeobcmmafncmaaDoorMaz
import Derived.Test.YtoeobcmmafncmaaDoorMab
namespace Go.Proofs.YtoeobcmmafncmaaDoor
open Go.RowKit
attribute [local go_sem] Oper.semAt_some

theorem Blk.dr {w : World} {g : Nat} {t : TypeId} {cs : Array Value} (h : Blk w g t cs) : Blk w.drew g t cs := h
theorem made_zero (n : Nat) : madeCells zeroL.cells (n * 6) = ((List.replicate n zeroL).flatMap Ltr.cl).toArray := by
  rw [zero_cells]
  apply Array.ext
  · rw [size_madeCells, Array.size_replicate]
  · intro i h1 h2
    simp only [madeCells, Array.getElem_map, Array.getElem_range, Array.getElem_replicate]
    have h6 : i % 6 < 6 := Nat.mod_lt _ (by omega)
    show zeroL.cells[i % 6]! = _
    generalize i % 6 = j at *
    obtain rfl | rfl | rfl | rfl | rfl | rfl : j = 0 ∨ j = 1 ∨ j = 2 ∨ j = 3 ∨ j = 4 ∨ j = 5 := by omega
    all_goals rfl
theorem sealed_info : (Tryd.prog.info? 54).map (fun i => (i.zero, i.size, i.bytes)) = some (some (.agg zeroL.cells), 6, 48) := by kernel_rfl
theorem prf_info : (Tryd.prog.info? 99).map (fun i => (i.zero, i.size, i.bytes)) = some (some (.agg zeroL.cells), 6, 48) := by kernel_rfl
theorem make_letters (n : Nat) (hn : n ≤ 100000) (w : World) : (Instr.makeSlice 48 (.int .i64 (n : Nat)) (.int .i64 (n : Nat))).run Tryd.prog w = .ok (.slice (some ⟨w.heap.size, 0, none⟩) n n) (w.alloc (.cells ((List.replicate n zeroL).flatMap Ltr.cl).toArray 54)) := by
  obtain ⟨i0, hi, hz0, hz1, hz2⟩ := info_parts sealed_info
  have := run_makeSlice (w := w) (P := Tryd.prog) 48 54 i0 (.agg zeroL.cells) Tryd.underlying48 hi hz0 .i64 .i64 (n : Int) n (by omega) (Int.le_refl _) (by rw [hz1, Int.toNat_natCast]; omega) (by rw [hz2]; omega) (by omega)
  rw [← made_zero]
  rw [Int.toNat_natCast, hz1] at this
  exact this
theorem make_proofs (n : Nat) (hn : n ≤ 100000) (w : World) : (Instr.makeSlice 64 (.int .i64 (n : Nat)) (.int .i64 (n : Nat))).run Tryd.prog w = .ok (.slice (some ⟨w.heap.size, 0, none⟩) n n) (w.alloc (.cells ((List.replicate n zeroL).flatMap Ltr.cl).toArray 99)) := by
  obtain ⟨i0, hi, hz0, hz1, hz2⟩ := info_parts prf_info
  have := run_makeSlice (w := w) (P := Tryd.prog) 64 99 i0 (.agg zeroL.cells) Tryd.underlying64 hi hz0 .i64 .i64 (n : Int) n (by omega) (Int.le_refl _) (by rw [hz1, Int.toNat_natCast]; omega) (by rw [hz2]; omega) (by omega)
  rw [← made_zero]
  rw [Int.toNat_natCast, hz1] at this
  exact this

/-- What Bare gives. -/
def bareE (s : Int) (l : List Ltr) : Int := if secB s = true then chkL l else 110
def RetBare (s : Int) (l : List Ltr) (w : World) (r : Ending) (w' : World) : Prop :=
  Below w.heap.size w w' ∧ (bareE s l ≠ 0 → r = .returned (.tuple #[.slice none 0 0, .slice none 0 0, .int .i64 (bareE s l)])) ∧
  (bareE s l = 0 → ∃ g1 g2, r = .returned (.tuple #[.slice (some ⟨g1, 0, none⟩) l.length l.length, .slice (some ⟨g2, 0, none⟩) l.length l.length, .int .i64 0]) ∧
    w.heap.size ≤ g1 ∧ w.heap.size ≤ g2 ∧ Blk w' g1 54 ((bareX s l).flatMap Ltr.cl).toArray ∧ Blk w' g2 99 ((bareP s l).flatMap Ltr.cl).toArray)

def Two (W : World) (n : Nat) (s : Int) (X Y : Array Value) (wc : World) : Prop :=
  ∃ g1 g2, W.heap.size + 1 + 1 < g1 ∧ W.heap.size + 1 + 1 < g2 ∧ g1 ≠ g2 ∧ Below W.heap.size W wc ∧ Blk wc W.heap.size 3 #[.int .i64 s] ∧ Blk wc (W.heap.size + 1) 48 #[.slice (some ⟨g1, 0, none⟩) n n] ∧ Blk wc (W.heap.size + 1 + 1) 64 #[.slice (some ⟨g2, 0, none⟩) n n] ∧
      Blk wc g1 54 X ∧ Blk wc g2 99 Y
section
variable {W w5 : World} {n : Nat} {s : Int} {X Y : Array Value} {u v : Value} (h3 : Below W.heap.size W w5) (hlt : W.heap.size + 1 + 1 < w5.heap.size) (BS : Blk w5 W.heap.size 3 #[.int .i64 s])
  (BX : Blk w5 (W.heap.size + 1) 48 #[u]) (BP : Blk w5 (W.heap.size + 1 + 1) 64 #[v])
include h3 hlt BS BX BP
theorem meetA : Two W n s X Y ((((w5.alloc (.cells X 54)).alloc (.cells Y 99)).setCell ⟨W.heap.size + 1, 0, none⟩ (.slice (some ⟨w5.heap.size, 0, none⟩) n n)).setCell ⟨W.heap.size + 1 + 1, 0, none⟩ (.slice (some ⟨w5.heap.size + 1, 0, none⟩) n n)).drew := by
  refine ⟨w5.heap.size, w5.heap.size + 1, hlt, by omega, by omega, ?_, ?_, ?_, ?_, ?_, ?_⟩
  · exact bDr (bSet (bSet (bAl (bAl h3 _) _) (by show W.heap.size ≤ W.heap.size + 1; omega) _) (by show W.heap.size ≤ W.heap.size + 1 + 1; omega) _)
  · exact Blk.dr ((((BS.alloc _).alloc _).far (by show W.heap.size ≠ W.heap.size + 1; omega) _).far (by show W.heap.size ≠ W.heap.size + 1 + 1; omega) _)
  · exact Blk.dr ((((BX.alloc _).alloc _).set1 _).far (by show W.heap.size + 1 ≠ W.heap.size + 1 + 1; omega) _)
  · exact Blk.dr ((((BP.alloc _).alloc _).far (by show W.heap.size + 1 + 1 ≠ W.heap.size + 1; omega) _).set1 _)
  · exact Blk.dr ((((Blk.new w5 _ X _ rfl).alloc _).far (by show w5.heap.size ≠ W.heap.size + 1; omega) _).far (by show w5.heap.size ≠ W.heap.size + 1 + 1; omega) _)
  · exact Blk.dr (((Blk.new _ _ Y (w5.heap.size + 1) (by simp)).far (by show w5.heap.size + 1 ≠ W.heap.size + 1; omega) _).far (by show w5.heap.size + 1 ≠ W.heap.size + 1 + 1; omega) _)
theorem meetB : Two W n s X Y ((((w5.alloc (.cells Y 99)).alloc (.cells X 54)).setCell ⟨W.heap.size + 1, 0, none⟩ (.slice (some ⟨w5.heap.size + 1, 0, none⟩) n n)).setCell ⟨W.heap.size + 1 + 1, 0, none⟩ (.slice (some ⟨w5.heap.size, 0, none⟩) n n)).drew := by
  refine ⟨w5.heap.size + 1, w5.heap.size, by omega, hlt, by omega, ?_, ?_, ?_, ?_, ?_, ?_⟩
  · exact bDr (bSet (bSet (bAl (bAl h3 _) _) (by show W.heap.size ≤ W.heap.size + 1; omega) _) (by show W.heap.size ≤ W.heap.size + 1 + 1; omega) _)
  · exact Blk.dr ((((BS.alloc _).alloc _).far (by show W.heap.size ≠ W.heap.size + 1; omega) _).far (by show W.heap.size ≠ W.heap.size + 1 + 1; omega) _)
  · exact Blk.dr ((((BX.alloc _).alloc _).set1 _).far (by show W.heap.size + 1 ≠ W.heap.size + 1 + 1; omega) _)
  · exact Blk.dr ((((BP.alloc _).alloc _).far (by show W.heap.size + 1 + 1 ≠ W.heap.size + 1; omega) _).set1 _)
  · exact Blk.dr (((Blk.new _ _ X (w5.heap.size + 1) (by simp)).far (by show w5.heap.size + 1 ≠ W.heap.size + 1; omega) _).far (by show w5.heap.size + 1 ≠ W.heap.size + 1 + 1; omega) _)
  · exact Blk.dr ((((Blk.new w5 _ Y _ rfl).alloc _).far (by show w5.heap.size ≠ W.heap.size + 1; omega) _).far (by show w5.heap.size ≠ W.heap.size + 1 + 1; omega) _)
theorem meetC : Two W n s X Y ((((w5.alloc (.cells X 54)).setCell ⟨W.heap.size + 1, 0, none⟩ (.slice (some ⟨w5.heap.size, 0, none⟩) n n)).alloc (.cells Y 99)).setCell ⟨W.heap.size + 1 + 1, 0, none⟩ (.slice (some ⟨w5.heap.size + 1, 0, none⟩) n n)).drew := by
  refine ⟨w5.heap.size, w5.heap.size + 1, hlt, by omega, by omega, ?_, ?_, ?_, ?_, ?_, ?_⟩
  · exact bDr (bSet (bAl (bSet (bAl h3 _) (by show W.heap.size ≤ W.heap.size + 1; omega) _) _) (by show W.heap.size ≤ W.heap.size + 1 + 1; omega) _)
  · exact Blk.dr ((((BS.alloc _).far (by show W.heap.size ≠ W.heap.size + 1; omega) _).alloc _).far (by show W.heap.size ≠ W.heap.size + 1 + 1; omega) _)
  · exact Blk.dr ((((BX.alloc _).set1 _).alloc _).far (by show W.heap.size + 1 ≠ W.heap.size + 1 + 1; omega) _)
  · exact Blk.dr ((((BP.alloc _).far (by show W.heap.size + 1 + 1 ≠ W.heap.size + 1; omega) _).alloc _).set1 _)
  · exact Blk.dr ((((Blk.new w5 _ X _ rfl).far (by show w5.heap.size ≠ W.heap.size + 1; omega) _).alloc _).far (by show w5.heap.size ≠ W.heap.size + 1 + 1; omega) _)
  · exact Blk.dr ((Blk.new _ _ Y (w5.heap.size + 1) (by simp [World.setCell])).far (by show w5.heap.size + 1 ≠ W.heap.size + 1 + 1; omega) _)
end

set_option maxRecDepth 100000 in
set_option maxHeartbeats 8000000 in
theorem equal_bare (s : Int) (A : Option Addr) (n ca : Nat) (l : List Ltr) (W : World) (hA : Rd W W.heap.size 6 A n (l.flatMap Ltr.cl)) (hn : n ≤ 9223372036854775807) (hG : ShaG W) :
    Calls Tryd.prog 13 #[.int .i64 s, .slice A n ca] W (RetBare s l W) := by
  obtain rfl : l.length = n := Ltrs_length hA
  refine calls_of_wp_dm Tryd.func13 rfl ?_
  obtain ⟨W3, hW3⟩ : ∃ W3, W3 = ((W.alloc (.cells #[.int .i64 s] 3)).alloc (.cells #[.slice none 0 0] 48)).alloc (.cells #[.slice none 0 0] 64) := ⟨_, rfl⟩
  have h3 : Below W.heap.size W W3 := by rw [hW3]; exact bAl (bAl (bAl (bRefl W) _) _) _
  have BS : Blk W3 W.heap.size 3 #[.int .i64 s] := by rw [hW3]; exact ((Blk.new _ _ _ _ rfl).alloc _).alloc _
  have BX : Blk W3 (W.heap.size + 1) 48 #[.slice none 0 0] := by rw [hW3]; exact (Blk.new _ _ _ _ (by simp)).alloc _
  have BP : Blk W3 (W.heap.size + 1 + 1) 64 #[.slice none 0 0] := by rw [hW3]; exact Blk.new _ _ _ _ (by simp)
  simp only [Tryd.ntmps13, List.size_toArray, List.length_cons, List.length_nil, Nat.reduceAdd, Nat.reduceSub, Array.replicate_succ, Array.replicate_zero, List.push_toArray, List.append_toArray, List.nil_append, List.cons_append]
  have q1 := el_public s W3
  obtain ⟨k0, _⟩ := BS.one_
  go_upto_region 1 with fail
  rw [← hW3]
  clear hW3
  cases hs : secB s
  · have He : Hid (bareE s l = 110) := by show _ = _; unfold bareE; rw [hs]; rfl
    have e2 : pubE s = 110 := by unfold pubE; rw [hs]; rfl
    rw [e2] at q1
    clear hs e2
    go_wp2_with fail
    (with_reducible refine q1.mono ?_)
    rintro e w4 ⟨rfl, b4⟩
    clear q1 k0
    replace h3 := bCall h3 b4
    replace BX := BX.below b4 BX.lt
    replace BP := BP.below b4 BP.lt
    obtain ⟨x0, z0⟩ := BX.one_
    obtain ⟨x1, z1⟩ := BP.one_
    have e0 := ((BX.set1 (.slice none 0 0)).far (p := ⟨W.heap.size + 1 + 1, 0, none⟩) (by show W.heap.size + 1 ≠ W.heap.size + 1 + 1; omega) (.slice none 0 0)).one_.1
    have e1 := ((BP.far (p := ⟨W.heap.size + 1, 0, none⟩) (by show W.heap.size + 1 + 1 ≠ W.heap.size + 1; omega) (.slice none 0 0)).set1 (.slice none 0 0)).one_.1
    go_wp2_with fail
    refine ⟨.tuple #[.slice none 0 0, .slice none 0 0, .int .i64 110], by simp [results, Tryd.results13, go_sem, e0, e1], ?_⟩
    refine ⟨bSet (bSet h3 (by show W.heap.size ≤ W.heap.size + 1; omega) _) (by show W.heap.size ≤ W.heap.size + 1 + 1; omega) _, fun _ => by rw [He.out], fun h => by rw [He.out] at h; omega⟩
  · have He : Hid (bareE s l = chkL l) := by show _ = _; unfold bareE; rw [hs]; rfl
    have e2 : pubE s = 0 := by unfold pubE; rw [if_pos hs]; unfold powE; rw [if_pos valid_four]
    have Hs := Lib.hid hs
    rw [e2] at q1
    clear hs e2
    go_wp2_with fail
    (with_reducible refine q1.mono ?_)
    rintro e w4 ⟨rfl, b4⟩
    clear q1 k0
    replace h3 := bCall h3 b4
    replace BX := BX.below b4 BX.lt
    replace BP := BP.below b4 BP.lt
    replace BS := BS.below b4 BS.lt
    have q2 := equal_chk A l.length ca l w4 (hA.below h3 |>.more h3.size) hn
    by_cases h5 : chkL l = 0
    case neg =>
      have t5 : (chkL l != 0) = true := by rw [bne_iff_ne]; exact h5
      have H5 : Hid (chkL l ≠ 0) := h5
      clear h5
      generalize chkL l = er at *
      go_wp2_with fail
      (with_reducible refine q2.mono ?_)
      rintro e w5 ⟨rfl, b5⟩
      clear q2
      replace h3 := bCall h3 b5
      replace BX := BX.below b5 BX.lt
      replace BP := BP.below b5 BP.lt
      obtain ⟨x0, z0⟩ := BX.one_
      obtain ⟨x1, z1⟩ := BP.one_
      have e0 := ((BX.set1 (.slice none 0 0)).far (p := ⟨W.heap.size + 1 + 1, 0, none⟩) (by show W.heap.size + 1 ≠ W.heap.size + 1 + 1; omega) (.slice none 0 0)).one_.1
      have e1 := ((BP.far (p := ⟨W.heap.size + 1, 0, none⟩) (by show W.heap.size + 1 + 1 ≠ W.heap.size + 1; omega) (.slice none 0 0)).set1 (.slice none 0 0)).one_.1
      go_wp2_with fail
      refine ⟨.tuple #[.slice none 0 0, .slice none 0 0, .int .i64 er], by simp [results, Tryd.results13, go_sem, e0, e1], ?_⟩
      refine ⟨bSet (bSet h3 (by show W.heap.size ≤ W.heap.size + 1; omega) _) (by show W.heap.size ≤ W.heap.size + 1 + 1; omega) _, fun _ => by rw [He.out], fun h => by rw [He.out] at h; exact absurd h H5.out⟩
    case pos =>
    have hlen : l.length ≤ 64 := by unfold chkL at h5; split at h5 <;> omega
    have hgl : Hid (l.all Ltr.good = true) := by show _ = _; unfold chkL at h5; split at h5; · omega
                                                 split at h5; · assumption
                                                 omega
    rw [h5] at q2 He
    clear h5
    go_wp2_with fail
    (with_reducible refine q2.mono ?_)
    rintro e w5 ⟨rfl, b5⟩
    clear q2
    replace h3 := bCall h3 b5
    replace BX := BX.below b5 BX.lt
    replace BP := BP.below b5 BP.lt
    replace BS := BS.below b5 BS.lt
    clear b4 b5
    have m1 := make_letters l.length (by omega)
    have m2 := make_proofs l.length (by omega)
    obtain ⟨x0, z0⟩ := BX.one_
    obtain ⟨x1, z1⟩ := BP.one_
    have hlt := BP.lt
    obtain ⟨v0, v1⟩ := ((BX.alloc (.cells ((List.replicate l.length zeroL).flatMap Ltr.cl).toArray 54)).alloc (.cells ((List.replicate l.length zeroL).flatMap Ltr.cl).toArray 99)).one_
    obtain ⟨v8, v9⟩ := (BX.alloc (.cells ((List.replicate l.length zeroL).flatMap Ltr.cl).toArray 54)).one_
    obtain ⟨v10, v11⟩ := (((BP.alloc (.cells ((List.replicate l.length zeroL).flatMap Ltr.cl).toArray 54)).far (p := ⟨W.heap.size + 1, 0, none⟩) (by show W.heap.size + 1 + 1 ≠ W.heap.size + 1; omega) (.slice (some ⟨w5.heap.size, 0, none⟩) l.length l.length)).alloc (.cells ((List.replicate l.length zeroL).flatMap Ltr.cl).toArray 99)).one_
    obtain ⟨v2, v3⟩ := ((BX.alloc (.cells ((List.replicate l.length zeroL).flatMap Ltr.cl).toArray 99)).alloc (.cells ((List.replicate l.length zeroL).flatMap Ltr.cl).toArray 54)).one_
    obtain ⟨v4, v5⟩ := ((BP.alloc (.cells ((List.replicate l.length zeroL).flatMap Ltr.cl).toArray 54)).alloc (.cells ((List.replicate l.length zeroL).flatMap Ltr.cl).toArray 99)).one_
    obtain ⟨v6, v7⟩ := ((BP.alloc (.cells ((List.replicate l.length zeroL).flatMap Ltr.cl).toArray 99)).alloc (.cells ((List.replicate l.length zeroL).flatMap Ltr.cl).toArray 54)).one_
    go_upto_region 7 with fail
    go_cut [] from 12 to 68 (fun wc => Two W l.length s ((List.replicate l.length zeroL).flatMap Ltr.cl).toArray ((List.replicate l.length zeroL).flatMap Ltr.cl).toArray wc)
    case first =>
      go_region
      all_goals
        go_wp2_with fail
        go_meet
        clear m1 m2 x0 z0 x1 z1 v0 v1 v2 v3 v4 v5 v6 v7 v8 v9 v10 v11
        first
          | with_reducible exact meetA h3 hlt BS BX BP
          | with_reducible exact meetB h3 hlt BS BX BP
          | with_reducible exact meetC h3 hlt BS BX BP
          | fail
    case rest =>
    clear m1 m2 x0 z0 x1 z1 v0 v1 v2 v3 v4 v5 v6 v7 v8 v9 v10 v11 BS BX BP h3 hlt
    obtain ⟨g1, g2, l1, l2, hne, h7, BS, BX, BP, BX2, BP2⟩ := hcut
    go_wp2_with fail
    refine (equal_ciphers _ _ ⟨_, _, _, rfl⟩).mono ?_
    rintro e w' ⟨rfl, rfl⟩
    go_wp2_with fail
    obtain ⟨bp, hbp⟩ : ∃ bp, bp = wc.heap.size := ⟨_, rfl⟩
    have BQ := Blk.new wc 48 #[.slice A l.length ca] bp hbp
    have l3 : g1 < bp := by rw [hbp]; exact BX2.lt
    have l4 : g2 < bp := by rw [hbp]; exact BP2.lt
    replace BS := BS.alloc (.cells #[.slice A l.length ca] 48)
    replace BX := BX.alloc (.cells #[.slice A l.length ca] 48)
    replace BP := BP.alloc (.cells #[.slice A l.length ca] 48)
    replace BX2 := BX2.alloc (.cells #[.slice A l.length ca] 48)
    replace BP2 := BP2.alloc (.cells #[.slice A l.length ca] 48)
    replace h7 := bAl h7 (.cells #[.slice A l.length ca] 48)
    rw [← hbp]
    clear hbp
    generalize wc.alloc (.cells #[.slice A l.length ca] 48) = w7 at *
    refine wp_rangeBA 2 (gf := 57) (lb := #[.pointer (some ⟨bp, 0, none⟩)]) rfl (enters_of Tryd.func57 (by kernel_rfl) rfl)
      (fun k => k < W.heap.size ∨ k = bp) (eq_ciphers_stops bp W.heap.size l.length ca A l (fun k => k < W.heap.size ∨ k = bp) (.inr rfl) w7 h7.size (fun k hk => .inl hk) BQ (hA.below h7) hn) (fun k hk => by have h1 := BQ.lt; have h2 := h7.size; omega) (fun _ => rfl) W h7
      (fun pre => [(W.heap.size, 3, #[.int .i64 s]), (W.heap.size + 1, 48, #[.slice (some ⟨g1, 0, none⟩) l.length l.length]), (W.heap.size + 1 + 1, 64, #[.slice (some ⟨g2, 0, none⟩) l.length l.length]), (g1, 54, ((pre.foldl (wrZ (bareF s)) (List.replicate l.length zeroL)).flatMap Ltr.cl).toArray), (g2, 99, ((pre.foldl (wrZ (prfF s)) (List.replicate l.length zeroL)).flatMap Ltr.cl).toArray), (bp, 48, #[.slice A l.length ca])])
      (fun _ => True) (fun _ _ => []) (fun _ _ => False) ⟨BS, BX, BP, BX2, BP2, BQ, trivial⟩ trivial ?round ?done ?stop
    case stop => exact fun _ _ _ _ _ _ _ _ h => h.elim
    case round =>
      rintro _ pre z W0 hlen2 hb0 ⟨c1, c2, c3, c4, c5, c6, _⟩ _
      clear BS BX BP BX2 BP2 BQ h7
      dsimp only at c1 c2 c3 c4 c5 c6
      have hst1 := (wr_foldl (bareF s) pre).1
      have hst2 := (wr_foldl (prfF s) pre).1
      have hz1 := wrZ_cells (bareF s) (pre.foldl (wrZ (bareF s)) (List.replicate l.length zeroL)) z (by rw [hst1]; exact z.hi)
      have hz2 := wrZ_cells (prfF s) (pre.foldl (wrZ (prfF s)) (List.replicate l.length zeroL)) z (by rw [hst2]; exact z.hi)
      have hf1 : Hid ((pre ++ [z]).foldl (wrZ (bareF s)) (List.replicate l.length zeroL) = wrZ (bareF s) (pre.foldl (wrZ (bareF s)) (List.replicate l.length zeroL)) z) := by show _ = _; rw [List.foldl_append]; rfl
      have hf2 : Hid ((pre ++ [z]).foldl (wrZ (prfF s)) (List.replicate l.length zeroL) = wrZ (prfF s) (pre.foldl (wrZ (prfF s)) (List.replicate l.length zeroL)) z) := by show _ = _; rw [List.foldl_append]; rfl
      have hs1 : ((pre.foldl (wrZ (bareF s)) (List.replicate l.length zeroL)).flatMap Ltr.cl).toArray.size = l.length * 6 := by rw [List.size_toArray, flat_len Ltr.cl_length, hst1]
      have hs2 : ((pre.foldl (wrZ (prfF s)) (List.replicate l.length zeroL)).flatMap Ltr.cl).toArray.size = l.length * 6 := by rw [List.size_toArray, flat_len Ltr.cl_length, hst2]
      generalize pre.foldl (wrZ (bareF s)) (List.replicate l.length zeroL) = st1 at *
      generalize pre.foldl (wrZ (prfF s)) (List.replicate l.length zeroL) = st2 at *
      obtain ⟨i, k, hi⟩ := z
      obtain ⟨X, hX⟩ : ∃ X, Hid (l[i]? = some X) := ⟨_, Lib.hid (List.getElem?_eq_getElem hi)⟩
      have hza : (⟨i, k, hi⟩ : Pl l).a = X.aAt k := by obtain ⟨_, rfl⟩ := List.getElem?_eq_some_iff.1 hX.out; rfl
      have hzb : (⟨i, k, hi⟩ : Pl l).b = X.bAt k := by obtain ⟨_, rfl⟩ := List.getElem?_eq_some_iff.1 hX.out; rfl
      rw [hza, hzb] at hz1 hz2
      dsimp only [bareF, prfF] at hz1 hz2
      have Hz1 := Lib.hid hz1
      have Hz2 := Lib.hid hz2
      clear hza hzb hz1 hz2 hst1 hst2
      rw [plE_at hX.out k hi]
      have hXv : validB (X.aAt k) = true := (good_at (List.all_eq_true.1 hgl.out X (List.mem_of_getElem? hX.out)) k).1
      have HXv := Lib.hid hXv
      clear hXv
      gi_wp2
      refine ⟨[(W0.heap.size, 94, #[.int .i64 (i : Nat), .int .i64 (k.val : Nat)]), (W0.heap.size + 1, 52, #[.int .i64 (X.aAt k), .int .i64 (X.bAt k)])], KeepsOthers.below (bAl (bAl (bRefl _) _) _), Keeps.of_below (bAl (bAl (bRefl _) _) _) (fun j hj => by have h1 := c6.lt; have h2 := hb0.size; omega), bAl (bAl hb0 _) _, ⟨(Blk.new _ _ _ _ rfl).alloc _, Blk.new _ _ _ _ (by simp), (c1.alloc _).alloc _, (c2.alloc _).alloc _, (c3.alloc _).alloc _, (c4.alloc _).alloc _, (c5.alloc _).alloc _, (c6.alloc _).alloc _, trivial⟩, fun L Wc hbc hBl => ?_⟩
      have ht2 := c6.lt
      clear c1 c2 c3 c4 c5 c6
      generalize W0.heap.size = s0 at *
      obtain ⟨d1, d2, c1, c2, c3, c4, c5, c6, _⟩ := hBl
      dsimp only at c1 c2 c3 c4 c5 c6 d1 d2
      have hbz := hbc.size
      have hk3 := k.isLt
      have i1 : (0 : Int) ≤ (i : Int) := by omega
      have i2 : (i : Int) < (l.length : Int) := by omega
      have k1 : (0 : Int) ≤ (k.val : Int) := by omega
      have k2 : (k.val : Int) < 3 := by omega
      have q := equal_prove s (X.aAt k) Wc Hs.out HXv.out (hG.below hbc)
      obtain ⟨x0, _⟩ := c1.one_
      obtain ⟨x1, x2⟩ := d2.two
      gi_wp2_with fail
      refine ⟨trivial, ?_⟩
      (with_reducible refine (inR L q).mono ?_)
      rintro e w1 ⟨rfl, b1⟩
      clear q x0 x1 x2
      have kO := KeepsOthers.below b1
      have kK : Keeps (fun k => k < W.heap.size ∨ k = bp) Wc w1 := Keeps.of_below b1 (fun j hj => by have := c6.lt; omega)
      have hb1 := hbc.trans (b1.mono hbz)
      replace c1 := c1.below b1 c1.lt
      replace c2 := c2.below b1 c2.lt
      replace c3 := c3.below b1 c3.lt
      replace c4 := c4.below b1 c4.lt
      replace c5 := c5.below b1 c5.lt
      replace c6 := c6.below b1 c6.lt
      replace d1 := d1.below b1 d1.lt
      replace d2 := d2.below b1 d2.lt
      clear b1
      gi_wp2_with fail
      have b2 := bAl (bRefl w1) (.cells #[.int .i64 (provE s (X.aAt k)), .int .i64 (provS s (X.aAt k))] 95)
      have D3 := Blk.new w1 95 #[.int .i64 (provE s (X.aAt k)), .int .i64 (provS s (X.aAt k))] _ rfl
      have hs2lt := d2.lt
      have hs2lt2 := d1.lt
      generalize w1.alloc (.cells #[.int .i64 (provE s (X.aAt k)), .int .i64 (provS s (X.aAt k))] 95) = w2 at *
      replace kO := kO.trans (KeepsOthers.below b2)
      replace kK := kK.trans (Keeps.of_below b2 (fun j hj => by have := c6.lt; have := hb1.size; omega))
      have hb2 := hb1.trans (b2.mono hb1.size)
      replace c1 := c1.below b2 c1.lt
      replace c2 := c2.below b2 c2.lt
      replace c3 := c3.below b2 c3.lt
      replace c4 := c4.below b2 c4.lt
      replace c5 := c5.below b2 c5.lt
      replace c6 := c6.below b2 c6.lt
      replace d1 := d1.below b2 d1.lt
      replace d2 := d2.below b2 d2.lt
      clear b2 hb1
      generalize w1.heap.size = s2 at *
      have KS : Hid (∀ w', Below w2.heap.size w2 w' → _) := Lib.hid (fun w' h => and5 (c2.below h c2.lt).one_.1 (d1.below h d1.lt).two.1 (d1.below h d1.lt).two.2 (d2.below h d2.lt).two.1 (d2.below h d2.lt).two.2)
      refine wpIn_region_maskB (f := 16) (k := 5) KS [2, 1, 2, 1, 2, 1, 2, 1, 2, 1, 0, 0, 0, 0, 1, 0, 0] ?_
      simp only [pickH, pickT]
      refine wpHeads_r ?_
      refine wpHeads_t ?_
      refine wpHeads_r ?_
      refine wpHeads_t ?_
      refine wpHeads_r ?_
      refine wpHeads_t ?_
      refine wpHeads_r ?_
      refine wpHeads_t ?_
      refine wpHeads_r ?_
      refine wpHeads_t ?_
      refine wpHeads_t ?_
      refine wpHeads_nil ?_
      iterate 5 (refine wpTailS_cons (fun K hK => ?_); go_simp; (first | (go_at_call 34; (with_reducible refine (equal_mul2 (X.bAt k) (powV (powV (X.aAt k) s) (-1)) _).mono ?_); rintro e w' ⟨rfl, rfl⟩) | (go_at_call 35; (with_reducible refine (equal_pow (powV (X.aAt k) s) (-1) _).mono ?_); rintro e w9 ⟨rfl, b9⟩; have B1 : Below w2.heap.size w2 w9 := bCall (by repeat (first | exact bRefl _ | refine bAl ?_ _ | refine bDr ?_)) b9) | skip); refine mask_go hK KS ?_; clear hK K)
      refine wpTailS_zero ?_
      clear KS
      have B3 := bAl B1 (.cells #[.int .i64 (X.bAt k), .int .i64 (powV (powV (X.aAt k) s) (-1))] 3)
      generalize w9.alloc (.cells #[.int .i64 (X.bAt k), .int .i64 (powV (powV (X.aAt k) s) (-1))] 3) = w3 at *
      clear B1
      replace kO := kO.trans (KeepsOthers.below B3)
      replace kK := kK.trans (Keeps.of_below B3 (fun j hj => by have := c6.lt; have := hb2.size; omega))
      have hb3 := hb2.trans (B3.mono hb2.size)
      replace c1 := c1.below B3 c1.lt
      replace c2 := c2.below B3 c2.lt
      replace c3 := c3.below B3 c3.lt
      replace c4 := c4.below B3 c4.lt
      replace c5 := c5.below B3 c5.lt
      replace c6 := c6.below B3 c6.lt
      replace d1 := d1.below B3 d1.lt
      replace d2 := d2.below B3 d2.lt
      replace D3 := D3.below B3 D3.lt
      clear B3 hb2
      obtain ⟨u0, hu0⟩ : ∃ u, (st1.flatMap Ltr.cl).toArray[i * 6 + k.val * 2]? = some u := ⟨_, Array.getElem?_eq_getElem (by rw [hs1]; omega)⟩
      obtain ⟨u1, hu1⟩ : ∃ u, (st1.flatMap Ltr.cl).toArray[i * 6 + k.val * 2 + 1]? = some u := ⟨_, Array.getElem?_eq_getElem (by rw [hs1]; omega)⟩
      have y0 := (c4.cell _).trans hu0
      have y1 := (c4.cell _).trans hu1
      have z0 := c4.frozen (i * 6 + k.val * 2)
      have z1 := c4.frozen (i * 6 + k.val * 2 + 1)
      have e4 := (c4.set_ (i * 6 + k.val * 2) (.int .i64 (X.aAt k))).set_ (i * 6 + k.val * 2 + 1) (.int .i64 (mulL [X.bAt k, powV (powV (X.aAt k) s) (-1)]))
      rw [← Hz1.out] at e4
      clear hu0 hu1
      go_wp2_with fail
      refine NoOut.normal ?_
      replace kO := kO.trans ((KeepsOthers.setCell _ ⟨g1, i * 6 + k.val * 2, none⟩ (.int .i64 (X.aAt k))).trans (KeepsOthers.setCell _ ⟨g1, i * 6 + k.val * 2 + 1, none⟩ (.int .i64 (mulL [X.bAt k, powV (powV (X.aAt k) s) (-1)]))))
      replace kK := (kK.setCell (p := ⟨g1, i * 6 + k.val * 2, none⟩) (by show ¬ (g1 < W.heap.size ∨ g1 = bp); omega) (.int .i64 (X.aAt k))).setCell (p := ⟨g1, i * 6 + k.val * 2 + 1, none⟩) (by show ¬ (g1 < W.heap.size ∨ g1 = bp); omega) (.int .i64 (mulL [X.bAt k, powV (powV (X.aAt k) s) (-1)]))
      have hb4 := bSet (bSet hb3 (p := ⟨g1, i * 6 + k.val * 2, none⟩) (by show W.heap.size ≤ g1; omega) (.int .i64 (X.aAt k))) (p := ⟨g1, i * 6 + k.val * 2 + 1, none⟩) (by show W.heap.size ≤ g1; omega) (.int .i64 (mulL [X.bAt k, powV (powV (X.aAt k) s) (-1)]))
      replace c1 := (c1.far (p := ⟨g1, i * 6 + k.val * 2, none⟩) (by show W.heap.size ≠ g1; omega) (.int .i64 (X.aAt k))).far (p := ⟨g1, i * 6 + k.val * 2 + 1, none⟩) (by show W.heap.size ≠ g1; omega) (.int .i64 (mulL [X.bAt k, powV (powV (X.aAt k) s) (-1)]))
      replace c2 := (c2.far (p := ⟨g1, i * 6 + k.val * 2, none⟩) (by show W.heap.size + 1 ≠ g1; omega) (.int .i64 (X.aAt k))).far (p := ⟨g1, i * 6 + k.val * 2 + 1, none⟩) (by show W.heap.size + 1 ≠ g1; omega) (.int .i64 (mulL [X.bAt k, powV (powV (X.aAt k) s) (-1)]))
      replace c3 := (c3.far (p := ⟨g1, i * 6 + k.val * 2, none⟩) (by show W.heap.size + 1 + 1 ≠ g1; omega) (.int .i64 (X.aAt k))).far (p := ⟨g1, i * 6 + k.val * 2 + 1, none⟩) (by show W.heap.size + 1 + 1 ≠ g1; omega) (.int .i64 (mulL [X.bAt k, powV (powV (X.aAt k) s) (-1)]))
      replace c5 := (c5.far (p := ⟨g1, i * 6 + k.val * 2, none⟩) (by show g2 ≠ g1; omega) (.int .i64 (X.aAt k))).far (p := ⟨g1, i * 6 + k.val * 2 + 1, none⟩) (by show g2 ≠ g1; omega) (.int .i64 (mulL [X.bAt k, powV (powV (X.aAt k) s) (-1)]))
      replace c6 := (c6.far (p := ⟨g1, i * 6 + k.val * 2, none⟩) (by show bp ≠ g1; omega) (.int .i64 (X.aAt k))).far (p := ⟨g1, i * 6 + k.val * 2 + 1, none⟩) (by show bp ≠ g1; omega) (.int .i64 (mulL [X.bAt k, powV (powV (X.aAt k) s) (-1)]))
      replace d1 := (d1.far (p := ⟨g1, i * 6 + k.val * 2, none⟩) (by show s0 ≠ g1; omega) (.int .i64 (X.aAt k))).far (p := ⟨g1, i * 6 + k.val * 2 + 1, none⟩) (by show s0 ≠ g1; omega) (.int .i64 (mulL [X.bAt k, powV (powV (X.aAt k) s) (-1)]))
      replace d2 := (d2.far (p := ⟨g1, i * 6 + k.val * 2, none⟩) (by show s0 + 1 ≠ g1; omega) (.int .i64 (X.aAt k))).far (p := ⟨g1, i * 6 + k.val * 2 + 1, none⟩) (by show s0 + 1 ≠ g1; omega) (.int .i64 (mulL [X.bAt k, powV (powV (X.aAt k) s) (-1)]))
      replace D3 := (D3.far (p := ⟨g1, i * 6 + k.val * 2, none⟩) (by show s2 ≠ g1; omega) (.int .i64 (X.aAt k))).far (p := ⟨g1, i * 6 + k.val * 2 + 1, none⟩) (by show s2 ≠ g1; omega) (.int .i64 (mulL [X.bAt k, powV (powV (X.aAt k) s) (-1)]))
      clear y0 y1 z0 z1 c4
      generalize (w3.setCell ⟨g1, i * 6 + k.val * 2, none⟩ (.int .i64 (X.aAt k))).setCell ⟨g1, i * 6 + k.val * 2 + 1, none⟩ (.int .i64 (mulL [X.bAt k, powV (powV (X.aAt k) s) (-1)])) = w4 at *
      have KS : Hid (∀ w', Below w4.heap.size w4 w' → _) := Lib.hid (fun w' h => and5 (c3.below h c3.lt).one_.1 (d1.below h d1.lt).two.1 (d1.below h d1.lt).two.2 (D3.below h D3.lt).two.1 (D3.below h D3.lt).two.2)
      gi_wp2_with fail
      refine wpIn_region_maskB (f := 8) (k := 0) KS [2, 1, 2, 1, 2, 2, 1, 1, 0] ?_
      simp only [pickH, pickT]
      refine wpHeads_r ?_
      refine wpHeads_t ?_
      refine wpHeads_r ?_
      refine wpHeads_t ?_
      refine wpHeads_r ?_
      refine wpHeads_r ?_
      refine wpHeads_t ?_
      refine wpHeads_t ?_
      refine wpHeads_nil ?_
      iterate 0 (refine wpTailS_cons (fun K hK => ?_); go_simp; (first | (fail) | skip); refine mask_go hK KS ?_; clear hK K)
      refine wpTailS_zero ?_
      clear KS
      replace c1 := Blk.dr c1
      replace c2 := Blk.dr c2
      replace c3 := Blk.dr c3
      replace c5 := Blk.dr c5
      replace c6 := Blk.dr c6
      replace e4 := Blk.dr e4
      replace hb4 := bDr hb4
      replace kO := kO.trans (KeepsOthers.drew _)
      replace kK : Keeps (fun k => k < W.heap.size ∨ k = bp) Wc w4.drew := ⟨kK.size, kK.same⟩
      generalize w4.drew = w5 at *
      obtain ⟨u0, hu0⟩ : ∃ u, (st2.flatMap Ltr.cl).toArray[i * 6 + k.val * 2]? = some u := ⟨_, Array.getElem?_eq_getElem (by rw [hs2]; omega)⟩
      obtain ⟨u1, hu1⟩ : ∃ u, (st2.flatMap Ltr.cl).toArray[i * 6 + k.val * 2 + 1]? = some u := ⟨_, Array.getElem?_eq_getElem (by rw [hs2]; omega)⟩
      have y0 := (c5.cell _).trans hu0
      have y1 := (c5.cell _).trans hu1
      have z0 := c5.frozen (i * 6 + k.val * 2)
      have z1 := c5.frozen (i * 6 + k.val * 2 + 1)
      have e5 := (c5.set_ (i * 6 + k.val * 2) (.int .i64 (provE s (X.aAt k)))).set_ (i * 6 + k.val * 2 + 1) (.int .i64 (provS s (X.aAt k)))
      rw [← Hz2.out] at e5
      clear hu0 hu1
      go_wp2_with fail
      refine NoOut.normal ?_
      replace kO := kO.trans ((KeepsOthers.setCell _ ⟨g2, i * 6 + k.val * 2, none⟩ (.int .i64 (provE s (X.aAt k)))).trans (KeepsOthers.setCell _ ⟨g2, i * 6 + k.val * 2 + 1, none⟩ (.int .i64 (provS s (X.aAt k)))))
      replace kK := (kK.setCell (p := ⟨g2, i * 6 + k.val * 2, none⟩) (by show ¬ (g2 < W.heap.size ∨ g2 = bp); omega) (.int .i64 (provE s (X.aAt k)))).setCell (p := ⟨g2, i * 6 + k.val * 2 + 1, none⟩) (by show ¬ (g2 < W.heap.size ∨ g2 = bp); omega) (.int .i64 (provS s (X.aAt k)))
      have hb5 := bSet (bSet hb4 (p := ⟨g2, i * 6 + k.val * 2, none⟩) (by show W.heap.size ≤ g2; omega) (.int .i64 (provE s (X.aAt k)))) (p := ⟨g2, i * 6 + k.val * 2 + 1, none⟩) (by show W.heap.size ≤ g2; omega) (.int .i64 (provS s (X.aAt k)))
      replace c1 := (c1.far (p := ⟨g2, i * 6 + k.val * 2, none⟩) (by show W.heap.size ≠ g2; omega) (.int .i64 (provE s (X.aAt k)))).far (p := ⟨g2, i * 6 + k.val * 2 + 1, none⟩) (by show W.heap.size ≠ g2; omega) (.int .i64 (provS s (X.aAt k)))
      replace c2 := (c2.far (p := ⟨g2, i * 6 + k.val * 2, none⟩) (by show W.heap.size + 1 ≠ g2; omega) (.int .i64 (provE s (X.aAt k)))).far (p := ⟨g2, i * 6 + k.val * 2 + 1, none⟩) (by show W.heap.size + 1 ≠ g2; omega) (.int .i64 (provS s (X.aAt k)))
      replace c3 := (c3.far (p := ⟨g2, i * 6 + k.val * 2, none⟩) (by show W.heap.size + 1 + 1 ≠ g2; omega) (.int .i64 (provE s (X.aAt k)))).far (p := ⟨g2, i * 6 + k.val * 2 + 1, none⟩) (by show W.heap.size + 1 + 1 ≠ g2; omega) (.int .i64 (provS s (X.aAt k)))
      replace c6 := (c6.far (p := ⟨g2, i * 6 + k.val * 2, none⟩) (by show bp ≠ g2; omega) (.int .i64 (provE s (X.aAt k)))).far (p := ⟨g2, i * 6 + k.val * 2 + 1, none⟩) (by show bp ≠ g2; omega) (.int .i64 (provS s (X.aAt k)))
      replace e4 := (e4.far (p := ⟨g2, i * 6 + k.val * 2, none⟩) (by show g1 ≠ g2; omega) (.int .i64 (provE s (X.aAt k)))).far (p := ⟨g2, i * 6 + k.val * 2 + 1, none⟩) (by show g1 ≠ g2; omega) (.int .i64 (provS s (X.aAt k)))
      have f1 := hf1.out
      have f2 := hf2.out
      clear y0 y1 z0 z1
      gi_wp2_with fail
      refine ⟨kO, kK, hb5, ⟨c1, c2, c3, ?_, ?_, c6, trivial⟩, trivial⟩
      · show Blk _ _ _ (((pre ++ [(⟨i, k, hi⟩ : Pl l)]).foldl (wrZ (bareF s)) (List.replicate l.length zeroL)).flatMap Ltr.cl).toArray
        rw [f1]; exact e4
      · show Blk _ _ _ (((pre ++ [(⟨i, k, hi⟩ : Pl l)]).foldl (wrZ (prfF s)) (List.replicate l.length zeroL)).flatMap Ltr.cl).toArray
        rw [f2]; exact e5
    case done =>
      rintro D xs Wc hD hall hbc ⟨c1, c2, c3, c4, c5, c6, _⟩ _ hd
      dsimp only at c2 c3 c4 c5
      rw [wr_done (bareF s) hall] at c4
      rw [wr_done (prfF s) hall] at c5
      clear BS BX BP BX2 BP2 BQ h7 c1 c6
      obtain ⟨x0, z0⟩ := c2.one_
      obtain ⟨x1, z1⟩ := c3.one_
      have KS : Hid (∀ w', Below Wc.heap.size Wc w' → _) := Lib.hid (fun w' h => And.intro (c2.below h c2.lt).one_.1 (c3.below h c3.lt).one_.1)
      have KS2 : Hid (∀ w' : World, Below Wc.heap.size Wc w' → (w'.setCell ⟨W.heap.size + 1, 0, none⟩ (.slice (some ⟨g1, 0, none⟩) l.length l.length)).cell? ⟨W.heap.size + 1, 0, none⟩ = some (.slice (some ⟨g1, 0, none⟩) l.length l.length) ∧ (w'.setCell ⟨W.heap.size + 1, 0, none⟩ (.slice (some ⟨g1, 0, none⟩) l.length l.length)).cell? ⟨W.heap.size + 1 + 1, 0, none⟩ = some (.slice (some ⟨g2, 0, none⟩) l.length l.length)) := fun w' h =>
        ⟨((c2.below h c2.lt).set1 _).one_.1, ((c3.below h c3.lt).far (by show W.heap.size + 1 + 1 ≠ W.heap.size + 1; omega) _).one_.1⟩
      go_upto_region 14 with fail
      refine wp_region_mask (fun w' => w'.cell? ⟨W.heap.size + 1, 0, none⟩ = some (.slice (some ⟨g1, 0, none⟩) l.length l.length) ∧ w'.cell? ⟨W.heap.size + 1 + 1, 0, none⟩ = some (.slice (some ⟨g2, 0, none⟩) l.length l.length)) 3 1 [2, 2, 0, 0, 0] (by kernel_rfl) (by kernel_rfl) (by first | (refine KS.out _ ?_; (repeat (first | exact bRefl _ | refine bAl ?_ _ | refine bDr ?_)); done) | (refine KS2.out _ ?_; (repeat (first | exact bRefl _ | refine bAl ?_ _ | refine bDr ?_)); done)) ?_
      simp only [pickH, pickT]
      refine wpHeads_r ?_
      refine wpHeads_r ?_
      refine wpHeads_nil ?_
      iterate 1 (refine wpTailS_cons (fun K hK => ?_); go_simp; (first | (fail) | skip); refine hK.out _ _ (by first | (refine KS.out _ ?_; (repeat (first | exact bRefl _ | refine bAl ?_ _ | refine bDr ?_)); done) | (refine KS2.out _ ?_; (repeat (first | exact bRefl _ | refine bAl ?_ _ | refine bDr ?_)); done)) (fun hHeld => ?_); clear hHeld hK K; try simp only [Act.put, List.setIfInBounds_toArray, List.set_cons_zero, List.set_cons_succ])
      refine wpTailS_zero ?_
      have q2 : Blk (Wc.setCell ⟨W.heap.size + 1, 0, none⟩ (.slice (some ⟨g1, 0, none⟩) l.length l.length)).drew (W.heap.size + 1) 48 #[.slice (some ⟨g1, 0, none⟩) l.length l.length] := Blk.dr (c2.set1 _)
      have q3 : Blk (Wc.setCell ⟨W.heap.size + 1, 0, none⟩ (.slice (some ⟨g1, 0, none⟩) l.length l.length)).drew (W.heap.size + 1 + 1) 64 #[.slice (some ⟨g2, 0, none⟩) l.length l.length] := Blk.dr (c3.far (by show W.heap.size + 1 + 1 ≠ W.heap.size + 1; omega) _)
      have q4 : Blk (Wc.setCell ⟨W.heap.size + 1, 0, none⟩ (.slice (some ⟨g1, 0, none⟩) l.length l.length)).drew g1 54 _ := Blk.dr (c4.far (by show g1 ≠ W.heap.size + 1; omega) _)
      have q5 : Blk (Wc.setCell ⟨W.heap.size + 1, 0, none⟩ (.slice (some ⟨g1, 0, none⟩) l.length l.length)).drew g2 99 _ := Blk.dr (c5.far (by show g2 ≠ W.heap.size + 1; omega) _)
      have hdd : (Wc.setCell ⟨W.heap.size + 1, 0, none⟩ (.slice (some ⟨g1, 0, none⟩) l.length l.length)).drew.heap[D]? = some (.deferred (some [])) := by
        show (Wc.setCell ⟨W.heap.size + 1, 0, none⟩ (.slice (some ⟨g1, 0, none⟩) l.length l.length)).heap[D]? = _
        rw [Below.heap_setCell _ _ _ _ (fun e => ne_mark c2 hd rfl e.symm)]; exact hd
      have hb8 : Below W.heap.size W (Wc.setCell ⟨W.heap.size + 1, 0, none⟩ (.slice (some ⟨g1, 0, none⟩) l.length l.length)).drew := bDr (bSet hbc (by show W.heap.size ≤ W.heap.size + 1; omega) _)
      clear c2 c3 c4 c5 hd x0 x1 z0 z1 KS KS2 hbc
      generalize (Wc.setCell ⟨W.heap.size + 1, 0, none⟩ (.slice (some ⟨g1, 0, none⟩) l.length l.length)).drew = w8 at *
      obtain ⟨x1, z1⟩ := q3.one_
      have hd9 : (w8.setCell ⟨W.heap.size + 1 + 1, 0, none⟩ (.slice (some ⟨g2, 0, none⟩) l.length l.length)).heap[D]? = some (.deferred (some [])) := by
        rw [Below.heap_setCell _ _ _ _ (fun e => ne_mark q3 hdd rfl e.symm)]; exact hdd
      have r2 := (q2.far (p := ⟨W.heap.size + 1 + 1, 0, none⟩) (by show W.heap.size + 1 ≠ W.heap.size + 1 + 1; omega) (.slice (some ⟨g2, 0, none⟩) l.length l.length)).put (o' := .deferred none) hd9 rfl
      have r3 := (q3.set1 (.slice (some ⟨g2, 0, none⟩) l.length l.length)).put (o' := .deferred none) hd9 rfl
      have r4 := (q4.far (p := ⟨W.heap.size + 1 + 1, 0, none⟩) (by show g1 ≠ W.heap.size + 1 + 1; omega) (.slice (some ⟨g2, 0, none⟩) l.length l.length)).put (o' := .deferred none) hd9 rfl
      have r5 := (q5.far (p := ⟨W.heap.size + 1 + 1, 0, none⟩) (by show g2 ≠ W.heap.size + 1 + 1; omega) (.slice (some ⟨g2, 0, none⟩) l.length l.length)).put (o' := .deferred none) hd9 rfl
      go_wp2_with fail
      refine NoPanic.normal ?_
      go_wp2_with fail
      refine leavesM_mark (by simp) hd9 ?_
      have e2 := r2.one_.1
      have e3 := r3.one_.1
      refine ⟨.tuple #[.slice (some ⟨g1, 0, none⟩) l.length l.length, .slice (some ⟨g2, 0, none⟩) l.length l.length, .int .i64 0], by simp [results, Tryd.results13, go_sem, e2, e3], ?_⟩
      exact ⟨bPut (bSet hb8 (by show W.heap.size ≤ W.heap.size + 1 + 1; omega) _) hD _, fun h => absurd He.out h, fun _ => ⟨g1, g2, rfl, by omega, by omega, r4, r5⟩⟩
end Go.Proofs.YtoeobcmmafncmaaDoor

/-
  A case, a job, a letter that came in.
-/
namespace Go.Proofs.YtoeobcmmafncmaaDoor
open Go.ChangeShapes Go.WideShapes Go.ChangeAt Go.RowKit Go.Deep

theorem c_int : Tryd.prog.cellsOf 3 = 1 := by kernel_rfl
theorem c_u8 : Tryd.prog.cellsOf 5 = 1 := by kernel_rfl
theorem c_cipher : Tryd.prog.cellsOf 52 = 2 := by kernel_rfl
theorem c_equal : Tryd.prog.cellsOf 95 = 2 := by kernel_rfl
theorem c_sealed : Tryd.prog.cellsOf 54 = 6 := by kernel_rfl
theorem c_equals : Tryd.prog.cellsOf 99 = 6 := by kernel_rfl
theorem c_digest : Tryd.prog.cellsOf 30 = 32 := by kernel_rfl
theorem c_hand : Tryd.prog.cellsOf 34 = 42 := by kernel_rfl
theorem c_run : Tryd.prog.cellsOf 28 = 3 := by kernel_rfl
theorem c_sig : Tryd.prog.cellsOf 32 = 2 := by kernel_rfl
theorem c_words : Tryd.prog.cellsOf 50 = 3 := by kernel_rfl
theorem c_three : Tryd.prog.cellsOf 49 = 3 := by kernel_rfl
theorem b_int : Tryd.prog.bytesOf 3 = 8 := by kernel_rfl
theorem b_sealed : Tryd.prog.bytesOf 54 = 48 := by kernel_rfl
theorem b_equals : Tryd.prog.bytesOf 99 = 48 := by kernel_rfl
theorem b_digest : Tryd.prog.bytesOf 30 = 32 := by kernel_rfl
section
variable {H : Type} {enc : TypeId × Value → H} {w : World} {base : Nat} {spare : Nat → Bool} {held : Bool}
theorem in_int {n : Nat} {cs : List Value} {y : DataW H × List MemPlace} (h : DataW.trod enc Tryd.prog w base spare held n 3 cs = some y) : ∃ z, cs = [.int .i64 z] ∧ inI z := by
  obtain ⟨z, h1, _, h2⟩ := DataW.trod_int Tryd.underlying3 h
  exact ⟨z, h1, wf_i64 h2⟩
/-- A pair of whole numbers, three times. -/
theorem in_pair {t : TypeId} {f0 f1 : Field} (ht : Tryd.prog.underlying t = some (.struct #[f0, f1])) (h0 : f0.type = 3 ∧ f0.offset = 0) (h1 : f1.type = 3 ∧ f1.offset = 1) (hc : Tryd.prog.cellsOf t = 2) {n : Nat} {cs : List Value} {y : DataW H × List MemPlace}
    (h : DataW.trod enc Tryd.prog w base spare held n t cs = some y) (hw : Light Tryd.prog t y.1) : ∃ a b, cs = [.int .i64 a, .int .i64 b] ∧ inI a ∧ inI b := by
  obtain ⟨hl, m, hf⟩ := open_struct_w ht h hw
  obtain ⟨y0, q0, -⟩ := hf 0 f0 rfl
  obtain ⟨y1, q1, -⟩ := hf 1 f1 rfl
  rw [h0.1, h0.2, c_int] at q0
  rw [h1.1, h1.2, c_int] at q1
  obtain ⟨a, e0, i0⟩ := in_int q0
  obtain ⟨b, e1, i1⟩ := in_int q1
  rw [hc] at hl
  refine ⟨a, b, ?_, i0, i1⟩
  rw [← List.drop_zero (l := cs), drop_parts cs 0 1, e0, drop_parts cs (0 + 1) 1, e1, List.drop_eq_nil_of_le (by omega)]
  rfl
/-- Its numbers are whole numbers of the machine. -/
def Ltr.io (x : Ltr) : Prop := (inI x.a0 ∧ inI x.b0) ∧ (inI x.a1 ∧ inI x.b1) ∧ (inI x.a2 ∧ inI x.b2)
theorem in_three {t e : TypeId} (ht : Tryd.prog.underlying t = some (.array 3 e)) (hc : Tryd.prog.cellsOf t = 6) (he : Tryd.prog.cellsOf e = 2)
    (hp : ∀ {n : Nat} {cs : List Value} {y : DataW H × List MemPlace}, DataW.trod enc Tryd.prog w base spare held n e cs = some y → Light Tryd.prog e y.1 → ∃ a b, cs = [.int .i64 a, .int .i64 b] ∧ inI a ∧ inI b) {n : Nat} {cs : List Value} {y : DataW H × List MemPlace}
    (h : DataW.trod enc Tryd.prog w base spare held n t cs = some y) (hw : Light Tryd.prog t y.1) : ∃ l : Ltr, cs = l.cl ∧ l.io := by
  obtain ⟨hl, m, hf⟩ := open_array_w ht h hw
  obtain ⟨y0, q0, l0⟩ := hf 0 (by omega)
  obtain ⟨y1, q1, l1⟩ := hf 1 (by omega)
  obtain ⟨y2, q2, l2⟩ := hf 2 (by omega)
  rw [he] at q0 q1 q2
  obtain ⟨a0, b0, e0, i0⟩ := hp q0 l0
  obtain ⟨a1, b1, e1, i1⟩ := hp q1 l1
  obtain ⟨a2, b2, e2, i2⟩ := hp q2 l2
  rw [hc] at hl
  refine ⟨⟨a0, b0, a1, b1, a2, b2⟩, ?_, i0, i1, i2⟩
  rw [show 0 * 2 = 0 from rfl] at e0
  rw [show 1 * 2 = 2 from rfl] at e1
  rw [show 2 * 2 = 4 from rfl] at e2
  rw [← List.drop_zero (l := cs), drop_parts cs 0 2, e0, drop_parts cs (0 + 2) 2, e1, drop_parts cs (0 + 2 + 2) 2, e2, List.drop_eq_nil_of_le (by omega)]
  rfl
theorem in_sealed (n : Nat) (cs : List Value) (y : DataW H × List MemPlace) (h : DataW.trod enc Tryd.prog w base spare held n 54 cs = some y) (hw : Light Tryd.prog 54 y.1) : ∃ l : Ltr, cs = l.cl ∧ l.cl.length = 6 ∧ l.io := by
  obtain ⟨l, e, io⟩ := in_three Tryd.underlying54 c_sealed c_cipher (fun h hw => in_pair Tryd.underlying52 ⟨rfl, rfl⟩ ⟨rfl, rfl⟩ c_cipher h hw) h hw
  exact ⟨l, e, rfl, io⟩
theorem in_equals (n : Nat) (cs : List Value) (y : DataW H × List MemPlace) (h : DataW.trod enc Tryd.prog w base spare held n 99 cs = some y) (hw : Light Tryd.prog 99 y.1) : ∃ l : Ltr, cs = l.cl ∧ l.cl.length = 6 ∧ True := by
  obtain ⟨l, e, -⟩ := in_three Tryd.underlying99 c_equals c_equal (fun h hw => in_pair Tryd.underlying95 ⟨rfl, rfl⟩ ⟨rfl, rfl⟩ c_equal h hw) h hw
  exact ⟨l, e, rfl, trivial⟩
theorem in_digest (n : Nat) (cs : List Value) (y : DataW H × List MemPlace) (h : DataW.trod enc Tryd.prog w base spare held n 30 cs = some y) (hw : Light Tryd.prog 30 y.1) : ∃ d : List Nat, cs = byts d ∧ (byts d).length = 32 ∧ (d.length = 32 ∧ okB d) := by
  obtain ⟨hl, m, hf⟩ := open_array_w Tryd.underlying30 h hw
  rw [c_digest] at hl
  obtain ⟨V, hV⟩ := choose_lt (α := Nat) (n := 32) (p := fun i z => cs[i]? = some (.int .u8 (z : Nat)) ∧ z < 256) (fun i hi => by
    obtain ⟨y, q, -⟩ := hf i hi
    rw [c_u8, Nat.mul_one] at q
    obtain ⟨z, e, _, hz⟩ := DataW.trod_int Tryd.underlying5 q
    have hz' := wf_u8 hz
    refine ⟨z.toNat, ?_, by omega⟩
    have := at_part (j := 0) e rfl
    rw [Nat.add_zero] at this
    rw [this, show ((z.toNat : Nat) : Int) = z by omega])
  have he : cs = byts ((List.range 32).map V) := by
    apply List.ext_getElem?
    intro i
    rcases Nat.lt_or_ge i 32 with hi | hi
    · rw [(hV i hi).1]; simp [byts, hi]
    · rw [List.getElem?_eq_none (by omega), List.getElem?_eq_none (by simpa [byts] using hi)]
  refine ⟨(List.range 32).map V, he, by simp [byts], by simp, fun x hx => ?_⟩
  obtain ⟨i, hi, rfl⟩ := List.mem_map.1 hx
  exact (hV i (List.mem_range.1 hi)).2
theorem in_ints {t : TypeId} (ht : Tryd.prog.underlying t = some (.array 3 3)) (hc : Tryd.prog.cellsOf t = 3) {n : Nat} {cs : List Value} {y : DataW H × List MemPlace} (h : DataW.trod enc Tryd.prog w base spare held n t cs = some y) (hw : Light Tryd.prog t y.1) :
    ∃ a b c, cs = [.int .i64 a, .int .i64 b, .int .i64 c] ∧ inI a ∧ inI b ∧ inI c := by
  obtain ⟨hl, m, hf⟩ := open_array_w ht h hw
  obtain ⟨y0, q0, l0⟩ := hf 0 (by omega)
  obtain ⟨y1, q1, l1⟩ := hf 1 (by omega)
  obtain ⟨y2, q2, l2⟩ := hf 2 (by omega)
  rw [c_int] at q0 q1 q2
  obtain ⟨a, e0, k0⟩ := in_int q0
  obtain ⟨b, e1, k1⟩ := in_int q1
  obtain ⟨c, e2, k2⟩ := in_int q2
  rw [hc] at hl
  refine ⟨a, b, c, ?_, k0, k1, k2⟩
  rw [show 0 * 1 = 0 from rfl] at e0
  rw [show 1 * 1 = 1 from rfl] at e1
  rw [show 2 * 1 = 2 from rfl] at e2
  rw [← List.drop_zero (l := cs), drop_parts cs 0 1, e0, drop_parts cs (0 + 1) 1, e1, drop_parts cs (0 + 1 + 1) 1, e2, List.drop_eq_nil_of_le (by omega)]
  rfl
theorem one_ints {l : List Value} (h : ∀ v ∈ l, ∃ z, v = .int .i64 z) : ∀ v ∈ l, v.oneCell' = true := fun v hv => by obtain ⟨z, rfl⟩ := h v hv; rfl
theorem in_run {n : Nat} {cs : List Value} {y : DataW H × List MemPlace} (h : DataW.trod enc Tryd.prog w base spare held n 28 cs = some y) (hw : Light Tryd.prog 28 y.1) : ∃ a b c, cs = [.int .i64 a, .int .i64 b, .int .i64 c] ∧ inI a ∧ inI b ∧ inI c := by
  obtain ⟨hl, m, hf⟩ := open_struct_w Tryd.underlying28 h hw
  rw [c_run] at hl
  obtain ⟨y0, q0, -⟩ := hf 0 _ rfl
  obtain ⟨y1, q1, -⟩ := hf 1 _ rfl
  obtain ⟨y2, q2, -⟩ := hf 2 _ rfl
  simp only [List.getElem_toArray, List.getElem_cons_zero, List.getElem_cons_succ] at q0 q1 q2
  rw [c_int] at q0 q1 q2
  obtain ⟨a, e0, k0⟩ := in_int q0
  obtain ⟨b, e1, k1⟩ := in_int q1
  obtain ⟨c, e2, k2⟩ := in_int q2
  refine ⟨a, b, c, ?_, k0, k1, k2⟩
  rw [← List.drop_zero (l := cs), drop_parts cs 0 1, e0, drop_parts cs (0 + 1) 1, e1, drop_parts cs (0 + 1 + 1) 1, e2, List.drop_eq_nil_of_le (by omega)]
  rfl
theorem in_hand {n : Nat} {cs : List Value} {y : DataW H × List MemPlace} (h : DataW.trod enc Tryd.prog w base spare held n 34 cs = some y) (hw : Light Tryd.prog 34 y.1) : ∀ v ∈ cs, v.oneCell' = true := by
  obtain ⟨hl, m, hf⟩ := open_struct_w Tryd.underlying34 h hw
  rw [c_hand] at hl
  obtain ⟨y0, q0, l0⟩ := hf 0 _ rfl
  obtain ⟨y1, q1, l1⟩ := hf 1 _ rfl
  obtain ⟨y2, q2, l2⟩ := hf 2 _ rfl
  obtain ⟨y3, q3, l3⟩ := hf 3 _ rfl
  obtain ⟨y4, q4, l4⟩ := hf 4 _ rfl
  obtain ⟨y5, q5, l5⟩ := hf 5 _ rfl
  obtain ⟨y6, q6, l6⟩ := hf 6 _ rfl
  obtain ⟨y7, q7, l7⟩ := hf 7 _ rfl
  simp only [List.getElem_toArray, List.getElem_cons_zero, List.getElem_cons_succ] at q0 q1 q2 q3 q4 q5 q6 q7 l0 l5 l7
  rw [c_run] at q0
  rw [c_int] at q1 q2 q3 q4 q6
  rw [c_digest] at q5
  rw [c_sig] at q7
  obtain ⟨a0, b0, g0, e0, -⟩ := in_run q0 l0
  obtain ⟨a1, e1, -⟩ := in_int q1
  obtain ⟨a2, e2, -⟩ := in_int q2
  obtain ⟨a3, e3, -⟩ := in_int q3
  obtain ⟨a4, e4, -⟩ := in_int q4
  obtain ⟨d, e5, -⟩ := in_digest _ _ _ q5 l5
  obtain ⟨a6, e6, -⟩ := in_int q6
  obtain ⟨a7, b7, e7, -⟩ := in_pair Tryd.underlying32 ⟨rfl, rfl⟩ ⟨rfl, rfl⟩ c_sig q7 l7
  have key : ∀ v ∈ cs.drop 0, v.oneCell' = true := by
    refine cover 0 3 e0 (one_ints (by simp)) ?_
    refine cover (0 + 3) 1 e1 (one_ints (by simp)) ?_
    refine cover (0 + 3 + 1) 1 e2 (one_ints (by simp)) ?_
    refine cover (0 + 3 + 1 + 1) 1 e3 (one_ints (by simp)) ?_
    refine cover (0 + 3 + 1 + 1 + 1) 1 e4 (one_ints (by simp)) ?_
    refine cover (0 + 3 + 1 + 1 + 1 + 1) 32 e5 (fun v hv => byts_oneCell v hv) ?_
    refine cover (0 + 3 + 1 + 1 + 1 + 1 + 32) 1 e6 (one_ints (by simp)) ?_
    refine cover (0 + 3 + 1 + 1 + 1 + 1 + 32 + 1) 2 e7 (one_ints (by simp)) ?_
    rw [List.drop_eq_nil_of_le (by omega)]
    intro v hv; cases hv
  rw [List.drop_zero] at key
  exact key
theorem one_slice {A : Option Addr} {n c : Nat} : ∀ v ∈ [Value.slice A n c], v.oneCell' = true := by
  intro v hv
  simp only [List.mem_cons, List.not_mem_nil, or_false] at hv
  subst hv; rfl
end
end Go.Proofs.YtoeobcmmafncmaaDoor
