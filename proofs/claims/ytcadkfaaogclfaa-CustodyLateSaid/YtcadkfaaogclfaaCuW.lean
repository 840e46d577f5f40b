/-
  Custody: the laws' helpers, walked.
-/
import Derived.Test.YtcadkfaaogclfaaCuV
namespace Go.Proofs.Ytcadkfaaogclfaa
open Go.RowKit

theorem check_n (A : Option Addr) (n c : Nat) (l : List Ev) (W : World) (hA : Rd W W.heap.size 4 A n (l.flatMap Ev.cells)) (hn : l.length = n) :
    Calls Try.prog 14 #[.slice A n c] W (Ret (.int .i64 (check l)) W) := by subst hn; exact check_any A c l W hA
theorem status_n (A : Option Addr) (n c : Nat) (l : List Ev) (t : Int) (W : World) (hA : Rd W W.heap.size 4 A n (l.flatMap Ev.cells)) (hn : l.length = n) :
    Calls Try.prog 10 #[.slice A n c, .int .i64 t] W (RetIE (statusK l t) (statusE l t) W) := by subst hn; exact status_any A c l t W hA
theorem late_n (A B : Option Addr) (n m c d : Nat) (l : List Ev) (by_ : List Int) (W : World) (hA : Rd W W.heap.size 4 A n (l.flatMap Ev.cells)) (hB : Rd W W.heap.size 1 B m (ints by_))
    (hn : l.length = n) (hm : by_.length = m) (hm2 : m ≤ 9223372036854775807) :
    Calls Try.prog 12 #[.slice A n c, .slice B m d] W (RetIL (lateL l by_) (lateE l by_) W) := by subst hn; subst hm; exact late_any A B c d l by_ W hA hB hm2
theorem ref_check_n (A : Option Addr) (n c : Nat) (l : List Ev) (W : World) (hA : Rd W W.heap.size 4 A n (l.flatMap Ev.cells)) (hn : l.length = n) :
    Calls Try.prog 15 #[.slice A n c] W (Ret (.int .i64 (check l)) W) := by subst hn; exact ref_check A c l W hA

/-- The law's own event. -/
def evOf (letter kind time : Int) : Ev := ⟨letter, kind, time, if kind = 1 ∨ kind = 7 then -1 else 1⟩

set_option maxHeartbeats 1000000 in
theorem event_any (a k t : Int) (w : World) : Calls Try.prog 18 #[.int .i64 a, .int .i64 k, .int .i64 t] w (Ret (evOf a k t).agg w) := by
  go_enter Try.func18, Try.ntmps18
  go_wp2
  all_goals
    refine bodyPost_ret (v := (evOf a k t).agg) ?_ rfl ⟨rfl, ?_⟩
    · simp [results, Try.results18, go_sem, Ev.agg, evOf]
      simp_all
    · exact bAl (bAl (bRefl _) _) _

theorem Rd.more_later {w w' : World} {sz n : Nat} {A : Option Addr} {xs : List Value} (h : Rd w w.heap.size sz A n xs) (hb : Below w.heap.size w w') : Rd w' w'.heap.size sz A n xs := (h.below hb).more hb.size

def saneL : List Ev := [evOf 0 1 3, evOf 0 2 5, evOf 0 3 9]

set_option maxRecDepth 100000 in
set_option maxHeartbeats 4000000 in
theorem sane_any (w : World) : Calls Try.prog 8 #[] w (Ret (.bool true) w) := by
  go_enter Try.func8, Try.ntmps8
  go_wp2_with fail
  refine (event_any _ _ _ _).mono ?_
  rintro e w1 ⟨rfl, b1⟩
  go_wp2_with fail
  refine (event_any _ _ _ _).mono ?_
  rintro e w2 ⟨rfl, b2⟩
  go_wp2_with fail
  refine (event_any _ _ _ _).mono ?_
  rintro e w3 ⟨rfl, b3⟩
  have hb3 := bCall (bCall b1 b2) b3
  clear b1 b2 b3
  dsimp only [Ev.agg]
  go_wp2_with fail
  have hl := Rd.new w3 (saneL.flatMap Ev.cells) 36 4 3 _ rfl rfl
  have hb := bAl hb3 (.cells (saneL.flatMap Ev.cells).toArray 36)
  change Calls Try.prog _ _ (w3.alloc (.cells (saneL.flatMap Ev.cells).toArray 36)) _
  generalize w3.alloc (.cells (saneL.flatMap Ev.cells).toArray 36) = w4 at *
  generalize w3.heap.size = bl at *
  clear hb3
  have q := status_n none 0 0 [] 5 w4 Rd.nil_ rfl
  rw [show statusK [] 5 = 0 from by decide +kernel, show statusE [] 5 = 0 from by decide +kernel] at q
  refine q.mono ?_
  clear q
  rintro e w5 ⟨rfl, b5⟩
  replace hb := bCall hb b5
  replace hl := hl.more_later b5
  clear b5
  obtain ⟨w4, rfl⟩ : ∃ w4 : World, w4 = w5 := ⟨_, rfl⟩
  go_wp2_with fail
  have q := status_n (some ⟨bl, 0, none⟩) 3 3 saneL 0 w4 hl rfl
  rw [show statusK saneL 0 = 3 from by decide +kernel, show statusE saneL 0 = 0 from by decide +kernel] at q
  refine q.mono ?_
  clear q
  rintro e w5 ⟨rfl, b5⟩
  replace hb := bCall hb b5
  replace hl := hl.more_later b5
  clear b5
  obtain ⟨w4, rfl⟩ : ∃ w4 : World, w4 = w5 := ⟨_, rfl⟩
  go_wp2_with fail
  have q := status_n (some ⟨bl, 0, none⟩) 3 3 saneL (-1) w4 hl rfl
  rw [show statusK saneL (-1) = 0 from by decide +kernel, show statusE saneL (-1) = 1 from by decide +kernel] at q
  refine q.mono ?_
  clear q
  rintro e w5 ⟨rfl, b5⟩
  replace hb := bCall hb b5
  replace hl := hl.more_later b5
  clear b5
  obtain ⟨w4, rfl⟩ : ∃ w4 : World, w4 = w5 := ⟨_, rfl⟩
  go_wp2_with fail
  have q := late_n none (some ⟨w4.heap.size, 0, none⟩) 0 2 0 2 [] [(7), (8)] (w4.alloc (.cells #[.int .i64 (7), .int .i64 (8)] 3)) Rd.nil_ (by exact Rd.new _ _ _ _ _ _ rfl rfl) rfl rfl (by omega)
  rw [show lateL [] [(7), (8)] = [0, 1] from by decide +kernel, show lateE [] [(7), (8)] = 0 from by decide +kernel] at q
  refine q.mono ?_
  clear q
  rintro e w5 ⟨A1, c1, rfl, b5, r1⟩
  replace b5 := bCall (bAl (bRefl w4) _) b5
  replace hb := bCall hb b5
  replace hl := hl.more_later b5
  clear b5
  obtain ⟨w4, rfl⟩ : ∃ w4 : World, w4 = w5 := ⟨_, rfl⟩
  go_wp2_with fail
  have q := late_n (some ⟨bl, 0, none⟩) (some ⟨w4.heap.size, 0, none⟩) 3 1 3 1 saneL [(8)] (w4.alloc (.cells #[.int .i64 (8)] 3)) (by exact (hl.alloc (Nat.le_refl _) _).more (by simp)) (by exact Rd.new _ _ _ _ _ _ rfl rfl) rfl rfl (by omega)
  rw [show lateL saneL [(8)] = [0] from by decide +kernel, show lateE saneL [(8)] = 0 from by decide +kernel] at q
  refine q.mono ?_
  clear q
  rintro e w5 ⟨A2, c2, rfl, b5, r2⟩
  replace b5 := bCall (bAl (bRefl w4) _) b5
  replace hb := bCall hb b5
  replace hl := hl.more_later b5
  replace r1 := r1.more_later b5
  clear b5
  obtain ⟨w4, rfl⟩ : ∃ w4 : World, w4 = w5 := ⟨_, rfl⟩
  go_wp2_with fail
  have q := late_n (some ⟨bl, 0, none⟩) (some ⟨w4.heap.size, 0, none⟩) 3 1 3 1 saneL [(9)] (w4.alloc (.cells #[.int .i64 (9)] 3)) (by exact (hl.alloc (Nat.le_refl _) _).more (by simp)) (by exact Rd.new _ _ _ _ _ _ rfl rfl) rfl rfl (by omega)
  rw [show lateL saneL [(9)] = [] from by decide +kernel, show lateE saneL [(9)] = 0 from by decide +kernel] at q
  refine q.mono ?_
  clear q
  rintro e w5 ⟨A3, c3, rfl, b5, r3⟩
  replace b5 := bCall (bAl (bRefl w4) _) b5
  replace hb := bCall hb b5
  replace hl := hl.more_later b5
  replace r1 := r1.more_later b5
  replace r2 := r2.more_later b5
  clear b5
  obtain ⟨w4, rfl⟩ : ∃ w4 : World, w4 = w5 := ⟨_, rfl⟩
  go_wp2_with fail
  have q := late_n (some ⟨bl, 0, none⟩) (some ⟨w4.heap.size, 0, none⟩) 3 1 3 1 saneL [(-1)] (w4.alloc (.cells #[.int .i64 (-1)] 3)) (by exact (hl.alloc (Nat.le_refl _) _).more (by simp)) (by exact Rd.new _ _ _ _ _ _ rfl rfl) rfl rfl (by omega)
  rw [show lateL saneL [(-1)] = [] from by decide +kernel, show lateE saneL [(-1)] = 1 from by decide +kernel] at q
  refine q.mono ?_
  clear q
  rintro e w5 ⟨A4, c4, rfl, b5, r4⟩
  replace b5 := bCall (bAl (bRefl w4) _) b5
  replace hb := bCall hb b5
  replace hl := hl.more_later b5
  replace r1 := r1.more_later b5
  replace r2 := r2.more_later b5
  replace r3 := r3.more_later b5
  clear b5
  obtain ⟨w4, rfl⟩ : ∃ w4 : World, w4 = w5 := ⟨_, rfl⟩
  go_wp2_with fail
  have q := check_n none 0 0 [] w4 Rd.nil_ rfl
  rw [show check [] = 0 from by decide +kernel] at q
  refine q.mono ?_
  clear q
  rintro e w5 ⟨rfl, b5⟩
  replace hb := bCall hb b5
  replace hl := hl.more_later b5
  replace r1 := r1.more_later b5
  replace r2 := r2.more_later b5
  replace r3 := r3.more_later b5
  replace r4 := r4.more_later b5
  clear b5
  obtain ⟨w4, rfl⟩ : ∃ w4 : World, w4 = w5 := ⟨_, rfl⟩
  go_wp2_with fail
  have q := check_n (some ⟨bl, 4, none⟩) 2 2 (saneL.drop 1) w4 (by have h := hl.cut 1 (by omega); exact h) rfl
  rw [show check (saneL.drop 1) = 460 from by decide +kernel] at q
  refine q.mono ?_
  clear q
  rintro e w5 ⟨rfl, b5⟩
  replace hb := bCall hb b5
  replace hl := hl.more_later b5
  replace r1 := r1.more_later b5
  replace r2 := r2.more_later b5
  replace r3 := r3.more_later b5
  replace r4 := r4.more_later b5
  clear b5
  obtain ⟨w4, rfl⟩ : ∃ w4 : World, w4 = w5 := ⟨_, rfl⟩
  go_wp2_with fail
  have q := same_ints A1 (some ⟨w4.heap.size, 0, none⟩) 2 2 c1 2 [0, 1] [0, 1] (w4.alloc (.cells #[.int .i64 0, .int .i64 1] 3)) (by exact (r1.alloc (Nat.le_refl _) _).more (by simp)) (by exact Rd.new _ _ _ _ _ _ rfl rfl) (by omega) (by omega)
  rw [show decide (([0, 1] : List Int) = [0, 1]) = true from rfl] at q
  refine q.mono ?_
  clear q
  rintro e w5 ⟨rfl, b5⟩
  replace b5 := bCall (bAl (bRefl w4) _) b5
  replace hb := bCall hb b5
  replace r2 := r2.more_later b5
  clear b5
  obtain ⟨w4, rfl⟩ : ∃ w4 : World, w4 = w5 := ⟨_, rfl⟩
  go_wp2_with fail
  have q := same_ints A2 (some ⟨w4.heap.size, 0, none⟩) 1 1 c2 1 [0] [0] (w4.alloc (.cells #[.int .i64 0] 3)) (by exact (r2.alloc (Nat.le_refl _) _).more (by simp)) (by exact Rd.new _ _ _ _ _ _ rfl rfl) (by omega) (by omega)
  rw [show decide (([0] : List Int) = [0]) = true from rfl] at q
  refine q.mono ?_
  clear q
  rintro e w5 ⟨rfl, b5⟩
  replace b5 := bCall (bAl (bRefl w4) _) b5
  replace hb := bCall hb b5
  clear b5
  go_wp2_with fail
  go_ret
  exact ⟨rfl, hb⟩

end Go.Proofs.Ytcadkfaaogclfaa
