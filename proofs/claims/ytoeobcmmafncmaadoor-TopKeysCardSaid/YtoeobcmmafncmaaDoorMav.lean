/-
  elgamal: Again, Seal.
-/
import Derived.Test.YtoeobcmmafncmaaDoorMau
import Derived.Test.YtoeobcmmafncmaaDoorMar
namespace Go.Proofs.YtoeobcmmafncmaaDoor
open Go.RowKit

def moreL (key r0 r1 r2 : Int) (x : Ltr) : Ltr := moreU key r0 r1 r2 (moreU key r0 r1 r2 (moreU key r0 r1 r2 x 0) 1) 2
/-- What Again gives. -/
def againV (key : Int) (x : Ltr) (r0 r1 r2 : Int) : Ltr := if validB key = true then (if x.good = true then moreL key r0 r1 r2 x else zeroL) else zeroL
def againE (key : Int) (x : Ltr) : Int := if validB key = true then (if x.good = true then 0 else 100) else 90

theorem three {w : World} {b : Nat} {t : TypeId} {v0 v1 v2 : Value} (h : Blk w b t #[v0, v1, v2]) : w.cell? ⟨b, 0, none⟩ = some v0 ∧ w.cell? ⟨b, 1, none⟩ = some v1 ∧ w.cell? ⟨b, 2, none⟩ = some v2 := ⟨h.cell 0, h.cell 1, h.cell 2⟩
/-- What a region reads: a letter and three numbers. -/
theorem nine {w w' : World} {b c : Nat} {t u : TypeId} {v0 v1 v2 v3 v4 v5 s0 s1 s2 : Value} (h : Blk w b t #[v0, v1, v2, v3, v4, v5]) (k : Blk w c u #[s0, s1, s2]) (B : Below w.heap.size w w') :
    (w'.cell? ⟨b, 0, none⟩ = some v0 ∧ w'.cell? ⟨b, 1, none⟩ = some v1 ∧ w'.cell? ⟨b, 2, none⟩ = some v2 ∧ w'.cell? ⟨b, 3, none⟩ = some v3 ∧ w'.cell? ⟨b, 4, none⟩ = some v4 ∧ w'.cell? ⟨b, 5, none⟩ = some v5) ∧
    w'.cell? ⟨c, 0, none⟩ = some s0 ∧ w'.cell? ⟨c, 1, none⟩ = some s1 ∧ w'.cell? ⟨c, 2, none⟩ = some s2 := ⟨(h.below B h.lt).six, three (k.below B k.lt)⟩

/-- What more makes, in the slice that holds it. -/
theorem more_made (key r0 r1 r2 : Int) (x : Ltr) (hin : x.inP) (w : World) :
    Calls Tryd.prog 27 #[x.agg, .slice (some ⟨w.heap.size + 1 + 1, 0, none⟩) 1 1]
      (((w.alloc (.cells #[.int .i64 key] 3)).alloc (.cells #[.int .i64 r0, .int .i64 r1, .int .i64 r2] 49)).alloc (.cells #[.func (.func 50) #[] #[.pointer (some ⟨w.heap.size + 1, 0, none⟩), .pointer (some ⟨w.heap.size, 0, none⟩)]] 83))
      (Ret (moreL key r0 r1 r2 x).agg (((w.alloc (.cells #[.int .i64 key] 3)).alloc (.cells #[.int .i64 r0, .int .i64 r1, .int .i64 r2] 49)).alloc (.cells #[.func (.func 50) #[] #[.pointer (some ⟨w.heap.size + 1, 0, none⟩), .pointer (some ⟨w.heap.size, 0, none⟩)]] 83))) := by
  have BK := ((Blk.new w 3 #[.int .i64 key] _ rfl).alloc (.cells #[.int .i64 r0, .int .i64 r1, .int .i64 r2] 49)).alloc (.cells #[.func (.func 50) #[] #[.pointer (some ⟨w.heap.size + 1, 0, none⟩), .pointer (some ⟨w.heap.size, 0, none⟩)]] 83)
  have BR := (Blk.new (w.alloc (.cells #[.int .i64 key] 3)) 49 #[.int .i64 r0, .int .i64 r1, .int .i64 r2] (w.heap.size + 1) (by simp)).alloc (.cells #[.func (.func 50) #[] #[.pointer (some ⟨w.heap.size + 1, 0, none⟩), .pointer (some ⟨w.heap.size, 0, none⟩)]] 83)
  have BN := Blk.new ((w.alloc (.cells #[.int .i64 key] 3)).alloc (.cells #[.int .i64 r0, .int .i64 r1, .int .i64 r2] 49)) 83 #[.func (.func 50) #[] #[.pointer (some ⟨w.heap.size + 1, 0, none⟩), .pointer (some ⟨w.heap.size, 0, none⟩)]] (w.heap.size + 1 + 1) (by simp)
  exact el_changed (moreU key r0 r1 r2) Ltr.inP (moreU_inP key r0 r1 r2) x hin 50 (.inr rfl) _ _ _ BN (more_chg key r0 r1 r2 _ _ _ BK BR)

theorem more_drew (key r0 r1 r2 : Int) (x : Ltr) (hin : x.inP) (w : World) :
    Calls Tryd.prog 27 #[x.agg, .slice (some ⟨w.heap.size + 1 + 1, 0, none⟩) 1 1]
      (((w.alloc (.cells #[.int .i64 key] 3)).alloc (.cells #[.int .i64 r0, .int .i64 r1, .int .i64 r2] 49)).alloc (.cells #[.func (.func 50) #[] #[.pointer (some ⟨w.heap.size + 1, 0, none⟩), .pointer (some ⟨w.heap.size, 0, none⟩)]] 83)).drew
      (Ret (moreL key r0 r1 r2 x).agg (((w.alloc (.cells #[.int .i64 key] 3)).alloc (.cells #[.int .i64 r0, .int .i64 r1, .int .i64 r2] 49)).alloc (.cells #[.func (.func 50) #[] #[.pointer (some ⟨w.heap.size + 1, 0, none⟩), .pointer (some ⟨w.heap.size, 0, none⟩)]] 83)).drew) :=
  more_made key r0 r1 r2 x hin w.drew

end Go.Proofs.YtoeobcmmafncmaaDoor

/-
  elgamal: Seal.
-/
namespace Go.Proofs.YtoeobcmmafncmaaDoor
open Go.RowKit

def elemB (n : Int) : Bool := elemE n == 0
theorem elemB_yes {n : Int} (h : elemB n = true) : elemE n = 0 := by simpa [elemB] using h
theorem elemB_no {n : Int} (h : elemB n = false) : elemE n = 1 := by
  unfold elemB at h
  unfold elemE at h ⊢
  split
  · rename_i hc; rw [if_pos hc] at h; simp at h
  · rfl
def sealB (n0 n1 n2 : Int) : Bool := elemB n0 && elemB n1 && elemB n2
def seal0 (n0 n1 n2 : Int) : Ltr := ⟨1, elemV n0, 1, elemV n1, 1, elemV n2⟩
/-- What Seal gives. -/
def sealV (key n0 n1 n2 r0 r1 r2 : Int) : Ltr := if validB key = true then (if sealB n0 n1 n2 = true then moreL key r0 r1 r2 (seal0 n0 n1 n2) else zeroL) else zeroL
def sealE (key n0 n1 n2 : Int) : Int := if validB key = true then (if sealB n0 n1 n2 = true then 0 else 100) else 90
theorem elemV_inP {n : Int} : inP (elemV n) := by
  unfold elemV inP
  split
  · split <;> omega
  · omega
theorem seal0_inP (n0 n1 n2 : Int) : (seal0 n0 n1 n2).inP := ⟨⟨(⟨by omega, by omega⟩ : inP 1), elemV_inP⟩, ⟨(⟨by omega, by omega⟩ : inP 1), elemV_inP⟩, (⟨by omega, by omega⟩ : inP 1), elemV_inP⟩

set_option maxRecDepth 100000 in
set_option maxHeartbeats 8000000 in
theorem el_seal (key n0 n1 n2 r0 r1 r2 : Int) (W : World) :
    Calls Tryd.prog 10 #[.int .i64 key, .agg #[.int .i64 n0, .int .i64 n1, .int .i64 n2], .agg #[.int .i64 r0, .int .i64 r1, .int .i64 r2]] W (Ret (.tuple #[(sealV key n0 n1 n2 r0 r1 r2).agg, .int .i64 (sealE key n0 n1 n2)]) W) := by
  obtain ⟨W3, hW3⟩ : ∃ W3, W3 = ((W.alloc (.cells #[.int .i64 n0, .int .i64 n1, .int .i64 n2] 50)).alloc (.cells #[.int .i64 r0, .int .i64 r1, .int .i64 r2] 49)).alloc (.cells #[.int .i64 0, .int .i64 0, .int .i64 0, .int .i64 0, .int .i64 0, .int .i64 0] 54) := ⟨_, rfl⟩
  have h3 : Below W.heap.size W W3 := by rw [hW3]; exact bAl (bAl (bAl (bRefl W) _) _) _
  obtain ⟨v, hv⟩ : ∃ v, v = sealV key n0 n1 n2 r0 r1 r2 := ⟨_, rfl⟩
  obtain ⟨er, her⟩ : ∃ v, v = sealE key n0 n1 n2 := ⟨_, rfl⟩
  rw [← hv, ← her]
  have B3 : Blk W3 W.heap.size 50 #[.int .i64 n0, .int .i64 n1, .int .i64 n2] := by rw [hW3]; exact ((Blk.new _ _ _ _ rfl).alloc _).alloc _
  have B2 : Blk W3 (W.heap.size + 1) 49 #[.int .i64 r0, .int .i64 r1, .int .i64 r2] := by rw [hW3]; exact (Blk.new _ _ _ _ (by simp)).alloc _
  have B4 : Blk W3 (W.heap.size + 1 + 1) 54 #[.int .i64 0, .int .i64 0, .int .i64 0, .int .i64 0, .int .i64 0, .int .i64 0] := by rw [hW3]; exact Blk.new _ _ _ _ (by simp)
  have q := group_valid key W3
  cases hs : validB key
  · have Hv : Hid (v = zeroL) := by show _ = _; rw [hv]; exact if_neg (by simp [hs])
    have He : Hid (er = 90) := by show _ = _; rw [her]; exact if_neg (by simp [hs])
    rw [hs] at q
    have C5 := B4.set6 (.int .i64 0) (.int .i64 0) (.int .i64 0) (.int .i64 0) (.int .i64 0) (.int .i64 0)
    have h5 := bSet6 (b := W.heap.size + 1 + 1) h3 (by omega) (.int .i64 0) (.int .i64 0) (.int .i64 0) (.int .i64 0) (.int .i64 0) (.int .i64 0)
    clear hv her hs B2 B3
    go_enter Tryd.func10, Tryd.ntmps10
    unfold Ltr.agg
    go_upto_region 1 with fail
    rw [← hW3]
    clear hW3
    obtain ⟨m0, m1, m2, m3, m4, m5⟩ := B4.six
    obtain ⟨z0, z1, z2, z3, z4, z5⟩ := B4.six_free
    go_wp2_with fail
    (with_reducible refine q.mono ?_)
    rintro e w' ⟨rfl, rfl⟩
    clear q
    go_wp2_with fail
    change bodyPost _ _ _ _ _ (set6 W3 (W.heap.size + 1 + 1) (.int .i64 0) (.int .i64 0) (.int .i64 0) (.int .i64 0) (.int .i64 0) (.int .i64 0))
    obtain ⟨e0, e1, e2, e3, e4, e5⟩ := C5.six
    exact bodyPost_ret (v := .tuple #[zeroL.agg, .int .i64 90]) (by simp [results, Tryd.results10, go_sem, zeroL, Ltr.agg, e0, e1, e2, e3, e4, e5]) rfl ⟨ret_li Hv.out He.out, h5⟩
  · rw [hs] at q
    have Hv : Hid (v = if sealB n0 n1 n2 = true then moreL key r0 r1 r2 (seal0 n0 n1 n2) else zeroL) := by show _ = _; rw [hv]; exact if_pos hs
    have He : Hid (er = if sealB n0 n1 n2 = true then 0 else 100) := by show _ = _; rw [her]; exact if_pos hs
    clear hv her hs
    have i0 : ∀ w, (Instr.index 50 (.agg #[.int .i64 n0, .int .i64 n1, .int .i64 n2]) (.int .i64 0)).run Tryd.prog w = .ok (.int .i64 n0) w := fun _ => by kernel_rfl
    have i1 : ∀ w, (Instr.index 50 (.agg #[.int .i64 n0, .int .i64 n1, .int .i64 n2]) (.int .i64 1)).run Tryd.prog w = .ok (.int .i64 n1) w := fun _ => by kernel_rfl
    have i2 : ∀ w, (Instr.index 50 (.agg #[.int .i64 n0, .int .i64 n1, .int .i64 n2]) (.int .i64 2)).run Tryd.prog w = .ok (.int .i64 n2) w := fun _ => by kernel_rfl
    go_enter Tryd.func10, Tryd.ntmps10
    unfold Ltr.agg
    go_upto_region 1 with fail
    rw [← hW3]
    clear hW3
    obtain ⟨k0, k1, k2⟩ := three B3
    go_wp2_with fail
    (with_reducible refine q.mono ?_)
    rintro e w' ⟨rfl, rfl⟩
    clear q
    go_wp2_with fail
    clear k0 k1 k2
    go_loopw [17] (fun i wr => ∃ (k : Int), i = .int .i64 k ∧ Below W.heap.size W wr ∧ Blk wr (W.heap.size + 1) 49 #[.int .i64 r0, .int .i64 r1, .int .i64 r2] ∧
      (k = 0 ∧ Blk wr (W.heap.size + 1 + 1) 54 #[.int .i64 0, .int .i64 0, .int .i64 0, .int .i64 0, .int .i64 0, .int .i64 0] ∨
       k = 1 ∧ elemB n0 = true ∧ Blk wr (W.heap.size + 1 + 1) 54 #[.int .i64 1, .int .i64 (elemV n0), .int .i64 0, .int .i64 0, .int .i64 0, .int .i64 0] ∨
       k = 2 ∧ (elemB n0 = true ∧ elemB n1 = true) ∧ Blk wr (W.heap.size + 1 + 1) 54 #[.int .i64 1, .int .i64 (elemV n0), .int .i64 1, .int .i64 (elemV n1), .int .i64 0, .int .i64 0] ∨
       k = 3 ∧ (elemB n0 = true ∧ elemB n1 = true ∧ elemB n2 = true) ∧ Blk wr (W.heap.size + 1 + 1) 54 #[.int .i64 1, .int .i64 (elemV n0), .int .i64 1, .int .i64 (elemV n1), .int .i64 1, .int .i64 (elemV n2)])) (fun i _ => 3 - (intOf i).toNat)
    case atStart => exact ⟨0, rfl, h3, B2, .inl ⟨rfl, B4⟩⟩
    case round =>
      clear h3 B2 B4 B3
      obtain ⟨k, rfl, hb, B2, (⟨rfl, B4⟩ | ⟨rfl, ho, B4⟩ | ⟨rfl, ho, B4⟩ | ⟨rfl, ho, B4⟩)⟩ := hrel
      · have q := group_element n0 wr
        obtain ⟨z0, z1, z2, z3, z4, z5⟩ := B4.six_free
        obtain ⟨m0, m1, m2, m3, m4, m5⟩ := B4.six
        cases hc : elemB n0
        · have hbad : Hid (sealB n0 n1 n2 = false) := by show _ = _; unfold sealB; rw [hc]; rfl
          rw [elemB_no hc] at q
          clear hc
          have C5 := B4.set6 (.int .i64 0) (.int .i64 0) (.int .i64 0) (.int .i64 0) (.int .i64 0) (.int .i64 0)
          have h5 := bSet6 (b := W.heap.size + 1 + 1) hb (by omega) (.int .i64 0) (.int .i64 0) (.int .i64 0) (.int .i64 0) (.int .i64 0) (.int .i64 0)
          go_wp2_with fail
          (with_reducible refine q.mono ?_)
          rintro e w' ⟨rfl, rfl⟩
          clear q
          go_wp2_with fail
          change bodyPost _ _ _ _ _ (set6 wr (W.heap.size + 1 + 1) (.int .i64 0) (.int .i64 0) (.int .i64 0) (.int .i64 0) (.int .i64 0) (.int .i64 0))
          obtain ⟨e0, e1, e2, e3, e4, e5⟩ := C5.six
          exact bodyPost_ret (v := .tuple #[zeroL.agg, .int .i64 100]) (by simp [results, Tryd.results10, go_sem, zeroL, Ltr.agg, e0, e1, e2, e3, e4, e5]) rfl ⟨ret_li (by rw [Hv.out, hbad.out]; rfl) (by rw [He.out, hbad.out]; rfl), h5⟩
        · rw [elemB_yes hc] at q
          have B5 := (B4.set_ 0 (.int .i64 1)).set_ 1 (.int .i64 (elemV n0))
          have hc' := Lib.hid hc
          clear hc
          go_wp2_with fail
          (with_reducible refine q.mono ?_)
          rintro e w' ⟨rfl, rfl⟩
          clear q
          go_wp2_with fail
          have hc := hc'.out
          refine ⟨⟨1, rfl, bSet (bSet hb (by show W.heap.size ≤ W.heap.size + 1 + 1; omega) _) (by show W.heap.size ≤ W.heap.size + 1 + 1; omega) _, (B2.far (by show W.heap.size + 1 ≠ W.heap.size + 1 + 1; omega) _).far (by show W.heap.size + 1 ≠ W.heap.size + 1 + 1; omega) _, .inr (.inl ⟨rfl, trivial, ?_⟩)⟩, by simp [intOf]⟩
          simpa using B5
      · have q := group_element n1 wr
        obtain ⟨z0, z1, z2, z3, z4, z5⟩ := B4.six_free
        obtain ⟨m0, m1, m2, m3, m4, m5⟩ := B4.six
        have Ho := Lib.hid ho
        clear ho
        cases hc : elemB n1
        · have hbad : Hid (sealB n0 n1 n2 = false) := by show _ = _; unfold sealB; rw [hc]; simp
          rw [elemB_no hc] at q
          clear hc
          have C5 := B4.set6 (.int .i64 0) (.int .i64 0) (.int .i64 0) (.int .i64 0) (.int .i64 0) (.int .i64 0)
          have h5 := bSet6 (b := W.heap.size + 1 + 1) hb (by omega) (.int .i64 0) (.int .i64 0) (.int .i64 0) (.int .i64 0) (.int .i64 0) (.int .i64 0)
          go_wp2_with fail
          (with_reducible refine q.mono ?_)
          rintro e w' ⟨rfl, rfl⟩
          clear q
          go_wp2_with fail
          change bodyPost _ _ _ _ _ (set6 wr (W.heap.size + 1 + 1) (.int .i64 0) (.int .i64 0) (.int .i64 0) (.int .i64 0) (.int .i64 0) (.int .i64 0))
          obtain ⟨e0, e1, e2, e3, e4, e5⟩ := C5.six
          exact bodyPost_ret (v := .tuple #[zeroL.agg, .int .i64 100]) (by simp [results, Tryd.results10, go_sem, zeroL, Ltr.agg, e0, e1, e2, e3, e4, e5]) rfl ⟨ret_li (by rw [Hv.out, hbad.out]; rfl) (by rw [He.out, hbad.out]; rfl), h5⟩
        · rw [elemB_yes hc] at q
          have B5 := (B4.set_ 2 (.int .i64 1)).set_ 3 (.int .i64 (elemV n1))
          have hc' := Lib.hid hc
          clear hc
          go_wp2_with fail
          (with_reducible refine q.mono ?_)
          rintro e w' ⟨rfl, rfl⟩
          clear q
          go_wp2_with fail
          have hc := hc'.out
          refine ⟨⟨2, rfl, bSet (bSet hb (by show W.heap.size ≤ W.heap.size + 1 + 1; omega) _) (by show W.heap.size ≤ W.heap.size + 1 + 1; omega) _, (B2.far (by show W.heap.size + 1 ≠ W.heap.size + 1 + 1; omega) _).far (by show W.heap.size + 1 ≠ W.heap.size + 1 + 1; omega) _, .inr (.inr (.inl ⟨rfl, ⟨Ho.out, trivial⟩, ?_⟩))⟩, by simp [intOf]⟩
          simpa using B5
      · have q := group_element n2 wr
        obtain ⟨z0, z1, z2, z3, z4, z5⟩ := B4.six_free
        obtain ⟨m0, m1, m2, m3, m4, m5⟩ := B4.six
        have Ho := Lib.hid ho
        clear ho
        cases hc : elemB n2
        · have hbad : Hid (sealB n0 n1 n2 = false) := by show _ = _; unfold sealB; rw [hc]; simp
          rw [elemB_no hc] at q
          clear hc
          have C5 := B4.set6 (.int .i64 0) (.int .i64 0) (.int .i64 0) (.int .i64 0) (.int .i64 0) (.int .i64 0)
          have h5 := bSet6 (b := W.heap.size + 1 + 1) hb (by omega) (.int .i64 0) (.int .i64 0) (.int .i64 0) (.int .i64 0) (.int .i64 0) (.int .i64 0)
          go_wp2_with fail
          (with_reducible refine q.mono ?_)
          rintro e w' ⟨rfl, rfl⟩
          clear q
          go_wp2_with fail
          change bodyPost _ _ _ _ _ (set6 wr (W.heap.size + 1 + 1) (.int .i64 0) (.int .i64 0) (.int .i64 0) (.int .i64 0) (.int .i64 0) (.int .i64 0))
          obtain ⟨e0, e1, e2, e3, e4, e5⟩ := C5.six
          exact bodyPost_ret (v := .tuple #[zeroL.agg, .int .i64 100]) (by simp [results, Tryd.results10, go_sem, zeroL, Ltr.agg, e0, e1, e2, e3, e4, e5]) rfl ⟨ret_li (by rw [Hv.out, hbad.out]; rfl) (by rw [He.out, hbad.out]; rfl), h5⟩
        · rw [elemB_yes hc] at q
          have B5 := (B4.set_ 4 (.int .i64 1)).set_ 5 (.int .i64 (elemV n2))
          have hc' := Lib.hid hc
          clear hc
          go_wp2_with fail
          (with_reducible refine q.mono ?_)
          rintro e w' ⟨rfl, rfl⟩
          clear q
          go_wp2_with fail
          have hc := hc'.out
          refine ⟨⟨3, rfl, bSet (bSet hb (by show W.heap.size ≤ W.heap.size + 1 + 1; omega) _) (by show W.heap.size ≤ W.heap.size + 1 + 1; omega) _, (B2.far (by show W.heap.size + 1 ≠ W.heap.size + 1 + 1; omega) _).far (by show W.heap.size + 1 ≠ W.heap.size + 1 + 1; omega) _, .inr (.inr (.inr ⟨rfl, ⟨Ho.out.1, Ho.out.2, trivial⟩, ?_⟩))⟩, by simp [intOf]⟩
          simpa using B5
      · have hok : Hid (sealB n0 n1 n2 = true) := by show _ = _; unfold sealB; rw [ho.1, ho.2.1, ho.2.2]; rfl
        clear ho i0 i1 i2
        have Hv2 : Hid (v = moreU key r0 r1 r2 (moreU key r0 r1 r2 (moreU key r0 r1 r2 (seal0 n0 n1 n2) 0) 1) 2) := by show _ = _; rw [Hv.out, hok.out]; rfl
        have He2 : Hid (er = 0) := by show _ = _; rw [He.out, hok.out]; rfl
        have c9 := nine B4 B2 (bRefl _)
        have q3 := more_drew key r0 r1 r2 (seal0 n0 n1 n2) (seal0_inP n0 n1 n2) wr
        unfold moreL at q3
        generalize moreU key r0 r1 r2 (moreU key r0 r1 r2 (moreU key r0 r1 r2 (seal0 n0 n1 n2) 0) 1) 2 = y at *
        unfold Ltr.agg seal0 at q3
        have Q3 := Lib.hid q3
        clear q3
        have C9 : Hid (∀ w', Below wr.heap.size wr w' → _) := fun w' B => nine B4 B2 B
        go_upto_region 11 with fail
        refine wp_region_maskB (f := 6) (n := 3) C9 [2, 1, 2, 0, 0, 0, 0, 0] ?_
        simp only [pickH, pickT]
        refine wpHeads_r ?_
        refine wpHeads_t ?_
        refine wpHeads_r ?_
        refine wpHeads_nil ?_
        iterate 3 (refine wpTailS_cons (fun K hK => ?_); go_simp; (first | (go_at_call 27; (with_reducible refine Q3.out.mono ?_); rintro e w6 ⟨rfl, b6⟩; have B1 : Below wr.heap.size wr w6 := bCall (by repeat (first | exact bRefl _ | refine bAl ?_ _ | refine bDr ?_)) b6) | (go_at_call 28; (with_reducible refine (more_any key r0 r1 r2 _).mono ?_); rintro e w' ⟨rfl, rfl⟩) | skip); refine mask_go hK C9 ?_; clear hK K)
        refine wpTailS_zero ?_
        have h5 := bCall hb B1
        have F4 := B4.below B1 B4.lt
        obtain ⟨z0, z1, z2, z3, z4, z5⟩ := F4.six_free
        obtain ⟨m0, m1, m2, m3, m4, m5⟩ := F4.six
        have C5 := F4.set6 (.int .i64 y.a0) (.int .i64 y.b0) (.int .i64 y.a1) (.int .i64 y.b1) (.int .i64 y.a2) (.int .i64 y.b2)
        have h6 := bSet6 (b := W.heap.size + 1 + 1) h5 (by omega) (.int .i64 y.a0) (.int .i64 y.b0) (.int .i64 y.a1) (.int .i64 y.b1) (.int .i64 y.a2) (.int .i64 y.b2)
        clear c9
        go_wp2_with fail
        refine NoPanic.normal ?_
        go_wp2_with fail
        change bodyPost _ _ _ _ _ (set6 w6 (W.heap.size + 1 + 1) (.int .i64 y.a0) (.int .i64 y.b0) (.int .i64 y.a1) (.int .i64 y.b1) (.int .i64 y.a2) (.int .i64 y.b2))
        obtain ⟨e0, e1, e2, e3, e4, e5⟩ := C5.six
        exact bodyPost_ret (v := .tuple #[y.agg, .int .i64 0]) (by simp [results, Tryd.results10, go_sem, Ltr.agg, e0, e1, e2, e3, e4, e5]) rfl ⟨ret_li Hv2.out He2.out, h6⟩
end Go.Proofs.YtoeobcmmafncmaaDoor
