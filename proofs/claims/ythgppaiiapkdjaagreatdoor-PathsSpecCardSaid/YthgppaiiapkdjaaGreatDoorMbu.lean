/-
  frankinglaw55.sane, walked.
-/
import Derived.Test.YthgppaiiapkdjaaGreatDoorMbr
import Derived.Test.YthgppaiiapkdjaaGreatDoorMbt
import Derived.Test.YthgppaiiapkdjaaGreatDoorMbe
namespace Go.Proofs.YthgppaiiapkdjaaGreatDoor
open Go.RowKit

theorem join_any (A : Option Addr) (n c : Nat) (l : List Int) (J : Int) (W : World) (hA : Rd W W.heap.size 1 A n (ints l)) (hn : n ≤ 1000) (h : joinV l = J ∧ joinE l = 0) :
    Calls Tryz.prog 8 #[.slice A n c] W (Same (.tuple #[.int .i64 J, .int .i64 0]) W) := by
  have q := el_join A n c l W hA hn
  rw [h.1, h.2] at q
  exact q

theorem zero_case (w : World) : CaseAt w w.heap.size #[.int .i64 0, .int .i64 0, .int .i64 0, .slice none 0 0, .slice none 0 0, .slice none 0 0, .int .i64 0, .int .i64 0, .int .i64 0, .int .i64 0, .int .i64 0, .int .i64 0, .int .i64 0, .slice none 0 0, .int .i64 0] [] zeroC := by
  refine ⟨rfl, ?_, ls_nil, ⟨none, 0, rfl, Rd.nil_⟩, ⟨none, 0, rfl, Rd.nil_⟩, rfl, ?_, rfl, rfl, rfl, rfl, rfl, rfl, rfl, ⟨none, 0, rfl, Rd.nil_⟩, ?_⟩
  · intro v hv
    simp only [List.mem_cons, List.not_mem_nil, or_false] at hv
    rcases hv with h | h | h | h | h | h | h | h | h | h | h | h | h | h | h <;> (subst h; rfl)
  · intro k jc hk
    simp at hk
  · intro s hs
    cases hs
def zJobC : Array Value := #[.slice none 0 0, .slice none 0 0, .slice none 0 0, .slice none 0 0, .slice none 0 0, .slice none 0 0, .slice none 0 0, .int .i64 0, .int .i64 0, .int .i64 0, .int .i64 0, .int .i64 0, .int .i64 0, .int .i64 0, .int .u8 0, .int .u8 0, .int .u8 0, .int .u8 0, .int .u8 0, .int .u8 0, .int .u8 0, .int .u8 0, .int .u8 0, .int .u8 0, .int .u8 0, .int .u8 0, .int .u8 0, .int .u8 0, .int .u8 0, .int .u8 0, .int .u8 0, .int .u8 0, .int .u8 0, .int .u8 0, .int .u8 0, .int .u8 0, .int .u8 0, .int .u8 0, .int .u8 0, .int .u8 0, .int .u8 0, .int .u8 0, .int .u8 0, .int .u8 0, .int .u8 0, .int .u8 0, .int .i64 0, .int .i64 0, .int .i64 0]
theorem zJobC_in (w : World) : JobIn' w w.heap.size zJobC zeroJ := by
  refine ⟨rfl, ?_, ⟨ls_nil, ls_nil, ls_nil, ls_nil, ls_nil, ds_nil, ds_nil⟩, ⟨by show 0 ≤ _; omega, by show 0 ≤ _; omega, by show 0 ≤ _; omega, by show 0 ≤ _; omega⟩⟩
  intro u hu
  unfold zJobC at hu
  simp only [List.mem_cons, List.not_mem_nil, or_false] at hu
  rcases hu with h | h | h | h | h | h | h | h | h | h | h | h | h | h | h | h | h | h | h | h | h | h | h | h | h | h | h | h | h | h | h | h | h | h | h | h | h | h | h | h | h | h | h | h | h | h | h | h | h <;> (subst h; rfl)
theorem case_R {cs : Array Value} (h : cs.size = 15) (a b c : Value) : (cs.toList.take 10 ++ (#[a, b, c] : Array Value).toList ++ cs.toList.drop (10 + (#[a, b, c] : Array Value).size)).toArray = ((cs.setIfInBounds 10 a).setIfInBounds 11 b).setIfInBounds 12 c := by
  obtain ⟨l⟩ := cs
  match l, h with
  | [_, _, _, _, _, _, _, _, _, _, _, _, _, _, _], _ => rfl
theorem three_info : (Tryz.prog.info? 27).map (·.size) = some 3 := by kernel_rfl
theorem two_take {cur j0 j1 : Array Value} (h : cur.toList.take (2 * 49) = [j0, j1].flatMap Array.toList) (h0 : j0.size = 49) (i : Nat) (u : Value) :
    (cur.setIfInBounds (49 + i) u).toList.take (2 * 49) = [j0, j1.setIfInBounds i u].flatMap Array.toList := by
  have e1 : j0.toList.length = 49 := by simpa using h0
  have e : [j0, j1].flatMap Array.toList = j0.toList ++ j1.toList := by simp
  rw [Array.toList_setIfInBounds, List.take_set, h, e]
  have e2 : [j0, j1.setIfInBounds i u].flatMap Array.toList = j0.toList ++ j1.toList.set i u := by simp
  rw [e2, List.set_append_right _ _ (by omega), e1, Nat.add_sub_cancel_left]

set_option maxRecDepth 100000 in
set_option maxHeartbeats 8000000 in
theorem lw_sane (hP : CheckOk) (W : World) (hG : ShaG W) : Calls Tryz.prog 4 #[] W (Ret (.bool true) W) := by
  obtain ⟨J, hJ⟩ : ∃ J, Hid (J = jS) := ⟨_, rfl⟩
  obtain ⟨L, hL⟩ : ∃ L, Hid (L = lS) := ⟨_, rfl⟩
  have hs := Lib.hid (fun (W : World) => el_seal J 5 6 7 1 2 3 W)
  rw [hJ.out, (sealS 1 2 3).1, (sealS 1 2 3).2, show moreL jS 1 2 3 (seal0 5 6 7) = lS from rfl, ← hL.out, ← hJ.out] at hs
  unfold Ltr.agg at hs
  go_enter Tryz.func4, Tryz.ntmps4
  go_wp2_with fail
  have BW := Blk.new W 28 #[.int .i64 5, .int .i64 6, .int .i64 7] _ rfl
  have hb := bAl (bRefl W) (.cells #[.int .i64 5, .int .i64 6, .int .i64 7] 28)
  have hsz : (W.alloc (.cells #[.int .i64 5, .int .i64 6, .int .i64 7] 28)).heap.size = W.heap.size + 1 := by simp
  generalize W.alloc (.cells #[.int .i64 5, .int .i64 6, .int .i64 7] 28) = w1 at *
  have hjj : joinV [64, 256] = J ∧ joinE [64, 256] = 0 := by rw [hJ.out]; exact jS_join
  have hrd : Rd (w1.alloc (.cells #[.int .i64 64, .int .i64 256] 3)) (w1.alloc (.cells #[.int .i64 64, .int .i64 256] 3)).heap.size 1 (some ⟨W.heap.size + 1, 0, none⟩) 2 (ints [64, 256]) := Rd.new w1 (ints [64, 256]) _ 1 2 _ hsz.symm rfl
  have qj := join_any (some ⟨W.heap.size + 1, 0, none⟩) 2 2 [64, 256] J _ hrd (by omega) hjj
  (with_reducible refine qj.mono ?_)
  rintro e w2 ⟨rfl, rfl⟩
  clear qj
  have b12 := bAl (bRefl w1) (.cells #[.int .i64 64, .int .i64 256] 3)
  replace BW := BW.below b12 BW.lt
  replace hb := bCall hb b12
  clear b12
  generalize w1.alloc (.cells #[.int .i64 64, .int .i64 256] 3) = w2 at *
  have x0 : w2.cell? ⟨W.heap.size, 0, none⟩ = some (.int .i64 5) := BW.cell 0
  have x1 : w2.cell? ⟨W.heap.size, 1, none⟩ = some (.int .i64 6) := BW.cell 1
  have x2 : w2.cell? ⟨W.heap.size, 2, none⟩ = some (.int .i64 7) := BW.cell 2
  go_wp2_with fail
  (with_reducible refine (hs.out _).mono ?_)
  rintro e w3 ⟨rfl, b3⟩
  replace BW := BW.below b3 BW.lt
  replace hb := bCall hb b3
  clear x0 x1 x2 b3
  go_upto_region 4 with fail
  have BL := Blk.new w3 44 #[.int .i64 L.a0, .int .i64 L.b0, .int .i64 L.a1, .int .i64 L.b1, .int .i64 L.a2, .int .i64 L.b2] _ rfl
  have hb4 := bAl hb (.cells #[.int .i64 L.a0, .int .i64 L.b0, .int .i64 L.a1, .int .i64 L.b1, .int .i64 L.a2, .int .i64 L.b2] 44)
  have BW4 := BW.alloc (.cells #[.int .i64 L.a0, .int .i64 L.b0, .int .i64 L.a1, .int .i64 L.b1, .int .i64 L.a2, .int .i64 L.b2] 44)
  have hlb : W.heap.size < w3.heap.size := BW.lt
  clear BW hb
  generalize w3.alloc (.cells #[.int .i64 L.a0, .int .i64 L.b0, .int .i64 L.a1, .int .i64 L.b1, .int .i64 L.a2, .int .i64 L.b2] 44) = w4 at *
  generalize w3.heap.size = lb at *
  have x0 : w4.cell? ⟨W.heap.size, 0, none⟩ = some (.int .i64 5) := BW4.cell 0
  have x1 : w4.cell? ⟨W.heap.size, 1, none⟩ = some (.int .i64 6) := BW4.cell 1
  have x2 : w4.cell? ⟨W.heap.size, 2, none⟩ = some (.int .i64 7) := BW4.cell 2
  obtain ⟨l0, l1, l2, l3, l4, l5⟩ := BL.six
  have hll := BL.lt
  have hlt : W.heap.size < w4.heap.size := by omega
  go_upto_region 6 with fail
  apply wp_region_lit
  have hrs : Rd (w4.alloc (.cells #[.int .i64 3, .int .i64 4] 3)) (w4.alloc (.cells #[.int .i64 3, .int .i64 4] 3)).heap.size 1 (some ⟨w4.heap.size, 0, none⟩) 2 (ints [3, 4]) := Rd.new w4 (ints [3, 4]) _ 1 2 _ rfl rfl
  have hrl : Rd ((w4.alloc (.cells #[.int .i64 3, .int .i64 4] 3)).alloc (.cells #[.int .i64 L.a0, .int .i64 L.b0, .int .i64 L.a1, .int .i64 L.b1, .int .i64 L.a2, .int .i64 L.b2] 44)) ((w4.alloc (.cells #[.int .i64 3, .int .i64 4] 3)).alloc (.cells #[.int .i64 L.a0, .int .i64 L.b0, .int .i64 L.a1, .int .i64 L.b1, .int .i64 L.a2, .int .i64 L.b2] 44)).heap.size 6 (some ⟨w4.heap.size + 1, 0, none⟩) 1 ([L].flatMap Ltr.cl) :=
    Rd.new _ ([L].flatMap Ltr.cl) _ 6 1 _ (by simp) rfl
  have hb5 := bAl (bAl hb4 (.cells #[.int .i64 3, .int .i64 4] 3)) (.cells #[.int .i64 L.a0, .int .i64 L.b0, .int .i64 L.a1, .int .i64 L.b1, .int .i64 L.a2, .int .i64 L.b2] 44)
  have BL5 := (BL.alloc (.cells #[.int .i64 3, .int .i64 4] 3)).alloc (.cells #[.int .i64 L.a0, .int .i64 L.b0, .int .i64 L.a1, .int .i64 L.b1, .int .i64 L.a2, .int .i64 L.b2] 44)
  have hrs2 := (hrs.alloc (Nat.le_refl _) (.cells #[.int .i64 L.a0, .int .i64 L.b0, .int .i64 L.a1, .int .i64 L.b1, .int .i64 L.a2, .int .i64 L.b2] 44)).more (B' := ((w4.alloc (.cells #[.int .i64 3, .int .i64 4] 3)).alloc (.cells #[.int .i64 L.a0, .int .i64 L.b0, .int .i64 L.a1, .int .i64 L.b1, .int .i64 L.a2, .int .i64 L.b2] 44)).heap.size) (by simp)
  clear BL BW4 hb4 hrs
  go_wp2_with fail
  generalize (w4.alloc (.cells #[.int .i64 3, .int .i64 4] 3)).alloc (.cells #[.int .i64 L.a0, .int .i64 L.b0, .int .i64 L.a1, .int .i64 L.b1, .int .i64 L.a2, .int .i64 L.b2] 44) = w5 at *
  have hcL : chkL [L] = 0 := by rw [hL.out]; exact lS_chk
  have qb := lw_bare (some ⟨w4.heap.size, 0, none⟩) (some ⟨w4.heap.size + 1, 0, none⟩) 2 1 [3, 4] [L] 0 5 6 7 1 2 3 w5 secs_ok (by decide) hcL ⟨Nat.le_refl _, by omega⟩ hrs2 hrl (hG.below hb5)
  rw [show ([L] : List Ltr).length = 1 from rfl, show ([3, 4] : List Int).length = 2 from rfl] at qb
  unfold pathA at qb
  (with_reducible refine qb.mono ?_)
  rintro e w7 ⟨b7, csA, jcs, Al, cl, rfl, C7, -⟩
  have C7' : CaseAt w7 w7.heap.size csA jcs (cS 3) := by rw [hL.out] at C7; exact C7
  have BL7 := BL5.below b7 BL5.lt
  have hb7 := bCall hb5 b7
  clear qb C7 BL5 hb5 hrs2 hrl x0 x1 x2 l0 l1 l2 l3 l4 l5 b7
  dsimp only
  (refine ‹∀ (a : Act) (w : World), wpList _ _ _ _ a w → _› _ _ ?_)
  iterate 15 go_step
  refine wpList_storeG (by rfl) (by rfl) (by rfl) (by rfl) (store_newW (by rw [C7'.size]; exact case_info') (by rw [C7'.size]; rfl) C7'.one) ?_
  simp only [Act.put]
  have BC := Blk.new w7 33 csA _ rfl
  have hlc := BL7.lt
  have BL8 := BL7.alloc (.cells csA 33)
  have b78 := bAl (bRefl w7) (.cells csA 33)
  have C8 := C7'.below b78
  have hb8 := bCall hb7 b78
  have hcb := hb7.size
  clear BL7 C7' hb7 b78 hll hlt hlb
  generalize w7.alloc (.cells csA 33) = w8 at *
  generalize w7.heap.size = cb at *
  have q := hP.of (c := zeroC) (zero_case w8) (hG.below hb8) zeroC_check
  go_upto_region 7 with fail
  go_wp2_with fail
  (with_reducible refine q.mono ?_)
  rintro e w9 ⟨rfl, b9⟩
  have BC9 := BC.below b9 BC.lt
  have BL9 := BL8.below b9 BL8.lt
  have C9 := C8.below (b9.mono (Nat.le_of_lt BC.lt))
  have hb9 := bCall hb8 b9
  clear q BC BL8 C8 hb8 b9
  have LC := load_case BC9 C9.size
  have q := hP.of (C9.more (Nat.le_of_lt BC9.lt)) (hG.below hb9) cS_right
  go_upto_region 8 with fail
  apply wp_region_lit
  refine wpList_loadG (by rfl) (by rfl) (by rfl) LC ?_
  simp only [Act.put, List.setIfInBounds_toArray, List.set_cons_zero, List.set_cons_succ]
  clear LC
  go_wp2_with fail
  (with_reducible refine q.mono ?_)
  rintro e w10 ⟨rfl, b10⟩
  have BC10 := BC9.below b10 BC9.lt
  have BL10 := BL9.below b10 BL9.lt
  have C10 := C9.below (b10.mono (Nat.le_of_lt BC9.lt))
  have hb10 := bCall hb9 b10
  clear q BC9 BL9 C9 hb9 b10
  have LC := load_case BC10 C10.size
  go_upto_region 9 with fail
  apply wp_region_lit
  refine wpList_loadG (by rfl) (by rfl) (by rfl) LC ?_
  simp only [Act.put, List.setIfInBounds_toArray, List.set_cons_zero, List.set_cons_succ]
  clear LC
  iterate 3 go_step
  refine wpList_storeG (by rfl) (by rfl) (by rfl) (by rfl) (store_newW (by rw [C10.size]; exact case_info') (by rw [C10.size]; rfl) C10.one) ?_
  simp only [Act.put]
  have BO := Blk.new w10 33 csA _ rfl
  have BC11 := BC10.alloc (.cells csA 33)
  have BL11 := BL10.alloc (.cells csA 33)
  have b11 := bAl (bRefl w10) (.cells csA 33)
  have C11 := C10.below (b11.mono (Nat.le_of_lt BC10.lt))
  have hb11 := bCall hb10 b11
  have hco : cb < w10.heap.size := BC10.lt
  clear BC10 BL10 C10 hb10 b11
  generalize w10.alloc (.cells csA 33) = w11 at *
  generalize w10.heap.size = ob at *
  go_upto_region 10 with fail
  apply wp_region_lit
  iterate 9 go_step
  have hs := C11.size
  refine wpList_storeG (q := .pointer (some ⟨ob, 10, none⟩)) (v := .agg #[.int .i64 1, .int .i64 2, .int .i64 4]) (by rfl) (by rfl) (by rfl) (by rfl) (store_at BO three_info (by rw [hs]; show 13 ≤ 15; omega) (by intro v hv; simp only [List.mem_cons, List.not_mem_nil, or_false] at hv; rcases hv with rfl | rfl | rfl <;> rfl)) ?_
  simp only [Act.put]
  rw [case_R hs]
  have BO2 := BO.row (((csA.setIfInBounds 10 (.int .i64 1)).setIfInBounds 11 (.int .i64 2)).setIfInBounds 12 (.int .i64 4))
  have BC2 := BC11.farRow (g' := ob) (by omega) (((csA.setIfInBounds 10 (.int .i64 1)).setIfInBounds 11 (.int .i64 2)).setIfInBounds 12 (.int .i64 4))
  have BL2 := BL11.farRow (g' := ob) (by omega) (((csA.setIfInBounds 10 (.int .i64 1)).setIfInBounds 11 (.int .i64 2)).setIfInBounds 12 (.int .i64 4))
  have hcbo : cb ≤ ob := by omega
  have C12 := C11.below (below_setRow (Below.refl cb w11) hcbo (((csA.setIfInBounds 10 (.int .i64 1)).setIfInBounds 11 (.int .i64 2)).setIfInBounds 12 (.int .i64 4)))
  have hb12 := below_setRow hb11 (show W.heap.size ≤ ob by omega) (((csA.setIfInBounds 10 (.int .i64 1)).setIfInBounds 11 (.int .i64 2)).setIfInBounds 12 (.int .i64 4))
  have hlo : ob < w11.heap.size := BO.lt
  clear BO BC11 BL11 C11 hb11
  have hws : (w11.setRow ob (((csA.setIfInBounds 10 (.int .i64 1)).setIfInBounds 11 (.int .i64 2)).setIfInBounds 12 (.int .i64 4))).heap.size = w11.heap.size := setRow_size _ _ _
  generalize w11.setRow ob (((csA.setIfInBounds 10 (.int .i64 1)).setIfInBounds 11 (.int .i64 2)).setIfInBounds 12 (.int .i64 4)) = w12 at *
  have CR : CaseAt w12 w12.heap.size (((csA.setIfInBounds 10 (.int .i64 1)).setIfInBounds 11 (.int .i64 2)).setIfInBounds 12 (.int .i64 4)) jcs (cS 4) := (C12.more (show cb ≤ w12.heap.size by omega)).setR 1 2 4
  clear hws
  have q := hP.of CR (hG.below hb12) cS_other
  have LC := load_case BO2 CR.size
  go_upto_region 11 with fail
  apply wp_region_lit
  refine wpList_loadG (by rfl) (by rfl) (by rfl) LC ?_
  simp only [Act.put, List.setIfInBounds_toArray, List.set_cons_zero, List.set_cons_succ]
  clear LC
  go_wp2_with fail
  (with_reducible refine q.mono ?_)
  rintro e w13 ⟨rfl, b13⟩
  have BO13 := BO2.below b13 BO2.lt
  have BC13 := BC2.below b13 BC2.lt
  have BL13 := BL2.below b13 BL2.lt
  have C13 := C12.below (b13.mono (Nat.le_of_lt BC2.lt))
  have hb13 := bCall hb12 b13
  have hs13 := CR.size
  clear q CR BO2 BC2 BL2 C12 hb12 b13
  have LC := load_case BC13 hs
  go_upto_region 12 with fail
  apply wp_region_lit
  refine wpList_loadG (by rfl) (by rfl) (by rfl) LC ?_
  simp only [Act.put, List.setIfInBounds_toArray, List.set_cons_zero, List.set_cons_succ]
  clear LC
  refine wpList_storeG (by rfl) (by rfl) (by rfl) (by rfl) (store_whole BO13 (by rw [hs]; exact case_info') (by rw [hs13, hs]) C13.one) ?_
  simp only [Act.put]
  have BO14 := BO13.row csA
  have BC14 := BC13.farRow (g' := ob) (by omega) csA
  have BL14 := BL13.farRow (g' := ob) (by omega) csA
  have C14 := C13.below (below_setRow (Below.refl cb w13) hcbo csA)
  have hb14 := below_setRow hb13 (show W.heap.size ≤ ob by omega) csA
  clear BO13 BC13 BL13 C13 hb13 hs13
  generalize w13.setRow ob csA = w14 at *
  obtain ⟨AJ, cj, k5, hR⟩ := C14.jobs
  have hj2 := C14.jlen
  have n2 : (cS 3).jobs.length = 2 := bareJobs_length [3, 4] [lS]
  rw [n2] at k5 hR hj2
  have y5 : w14.cell? ⟨cb, 5, none⟩ = some (.slice AJ 2 cj) := (BC14.cell 5).trans k5
  have hl14 : cb < w14.heap.size := BC14.lt
  have hob14 : ob < w14.heap.size := BO14.lt
  have hlb14 : lb < w14.heap.size := BL14.lt
  have hone : ∀ u ∈ jcs.flatMap Array.toList, u.oneCell' = true := fun u hu => by
    obtain ⟨x, hx, hu⟩ := List.mem_flatMap.1 hu
    obtain ⟨i, hi⟩ := List.getElem?_of_mem hx
    exact (C14.job i x hi).2.1 u hu
  go_upto_region 13 with fail
  apply wp_region_lit
  iterate 9 go_step
  refine wpList_appendG (.tmp 78) (.tmp 80) 26 w14.heap.size 60 zJob 49 280 (.slice (some ⟨w14.heap.size, 0, none⟩) 0 0) 0 [] AJ 2 cj cb (jcs.flatMap Array.toList) rfl rfl Tryz.underlying26 job_info4 rfl (by omega) rfl (own_empty w14 _ _ _ (Nat.le_refl _)) rfl
    (hR.alloc (by omega) _) (fun e => by obtain ⟨b', off, e2, _⟩ := hR.2 (by omega); rw [e] at e2; cases e2) hone (by unfold maxLen; omega) (by omega) (by simp) (fun v15 w15 own15 hg15 => ?_)
  obtain ⟨g, cap, cur, rfl, hgb, BG15, hnc, hcm, hcs, hct⟩ := own_some own15 (by omega)
  have hb145 : Below w14.heap.size w14 w15 := (bAl (bRefl w14) (.cells #[] 60)).trans (hg15.below (own_empty w14 60 49 w14.heap.size (Nat.le_refl _)) (by simp))
  have BO15 := BO14.below hb145 BO14.lt
  have BC15 := BC14.below hb145 BC14.lt
  have BL15 := BL14.below hb145 BL14.lt
  have C15 := C14.below (hb145.mono (by omega))
  have hb15 := bCall hb14 hb145
  clear BO14 BC14 BL14 C14 hb14 hb145 own15 hg15 y5 hR hone
  have x5 : w15.cell? ⟨ob, 5, none⟩ = some (.slice AJ 2 cj) := (BO15.cell 5).trans k5
  have z5 := BO15.frozen 5
  go_upto_region 14 with fail
  have BO16 := BO15.set_ 5 (.slice (some ⟨g, 0, none⟩) 2 cap)
  have BC16 := BC15.far (p := ⟨ob, 5, none⟩) (by show cb ≠ ob; omega) (.slice (some ⟨g, 0, none⟩) 2 cap)
  have BL16 := BL15.far (p := ⟨ob, 5, none⟩) (by show lb ≠ ob; omega) (.slice (some ⟨g, 0, none⟩) 2 cap)
  have BG16 := BG15.far (p := ⟨ob, 5, none⟩) (by show g ≠ ob; omega) (.slice (some ⟨g, 0, none⟩) 2 cap)
  have C16 := C15.below (Below.setCell (Below.refl cb w15) (p := ⟨ob, 5, none⟩) hcbo (.slice (some ⟨g, 0, none⟩) 2 cap))
  have hb16 := bSet hb15 (p := ⟨ob, 5, none⟩) (by show W.heap.size ≤ ob; omega) (.slice (some ⟨g, 0, none⟩) 2 cap)
  clear BO15 BC15 BL15 BG15 C15 hb15 x5 z5
  generalize w15.setCell ⟨ob, 5, none⟩ (.slice (some ⟨g, 0, none⟩) 2 cap) = w16 at *
  have hX5 : (csA.setIfInBounds 5 (.slice (some ⟨g, 0, none⟩) 2 cap))[5]? = some (.slice (some ⟨g, 0, none⟩) 2 cap) := set_eq (by rw [hs]; omega)
  have x5 : w16.cell? ⟨ob, 5, none⟩ = some (.slice (some ⟨g, 0, none⟩) 2 cap) := (BO16.cell 5).trans hX5
  have hlg : g < w16.heap.size := BG16.lt
  have hlb : lb < w16.heap.size := BL16.lt
  have hlob : ob < w16.heap.size := BO16.lt
  obtain ⟨l0, l1, l2, l3, l4, l5⟩ := BL16.six
  obtain ⟨v53, h53⟩ : ∃ v, cur[53]? = some v := ⟨_, Array.getElem?_eq_getElem (by omega)⟩
  have x53 : w16.cell? ⟨g, 53, none⟩ = some v53 := (BG16.cell 53).trans h53
  have z53 := BG16.frozen 53
  go_upto_region 15 with fail
  have BG17 := (BG16.set_ 53 (.slice (some ⟨w16.heap.size, 0, none⟩) 1 1)).alloc (.cells #[.int .i64 L.a0, .int .i64 L.b0, .int .i64 L.a1, .int .i64 L.b1, .int .i64 L.a2, .int .i64 L.b2] 44)
  have BO17 := (BO16.far (p := ⟨g, 53, none⟩) (by show ob ≠ g; omega) (.slice (some ⟨w16.heap.size, 0, none⟩) 1 1)).alloc (.cells #[.int .i64 L.a0, .int .i64 L.b0, .int .i64 L.a1, .int .i64 L.b1, .int .i64 L.a2, .int .i64 L.b2] 44)
  have BN17 := Blk.new (w16.setCell ⟨g, 53, none⟩ (.slice (some ⟨w16.heap.size, 0, none⟩) 1 1)) 44 #[.int .i64 L.a0, .int .i64 L.b0, .int .i64 L.a1, .int .i64 L.b1, .int .i64 L.a2, .int .i64 L.b2] w16.heap.size (by simp)
  have C17 := C16.below ((Below.setCell (Below.refl cb w16) (p := ⟨g, 53, none⟩) (by show cb ≤ g; omega) (.slice (some ⟨w16.heap.size, 0, none⟩) 1 1)).alloc (by simp; omega) (.cells #[.int .i64 L.a0, .int .i64 L.b0, .int .i64 L.a1, .int .i64 L.b1, .int .i64 L.a2, .int .i64 L.b2] 44))
  have hb17 := bAl (bSet hb16 (p := ⟨g, 53, none⟩) (by show W.heap.size ≤ g; omega) (.slice (some ⟨w16.heap.size, 0, none⟩) 1 1)) (.cells #[.int .i64 L.a0, .int .i64 L.b0, .int .i64 L.a1, .int .i64 L.b1, .int .i64 L.a2, .int .i64 L.b2] 44)
  obtain ⟨j0, j1, rfl⟩ : ∃ j0 j1, jcs = [j0, j1] := by
    match jcs, hj2 with
    | [a, b], _ => exact ⟨a, b, rfl⟩
  have J0 : JobIn' _ cb j0 (bareJob 3 [lS]) := C17.job 0 j0 rfl
  have J1 : JobIn' _ cb j1 ((cS 3).jobAt 1) := C17.job 1 j1 rfl
  have hct2 := two_take hct J0.1 4 (.slice (some ⟨w16.heap.size, 0, none⟩) 1 1)
  clear BO16 BC16 BL16 BG16 C16 hb16 x5 l0 l1 l2 l3 l4 l5 x53 z53
  generalize (w16.setCell ⟨g, 53, none⟩ (.slice (some ⟨w16.heap.size, 0, none⟩) 1 1)).alloc (.cells #[.int .i64 L.a0, .int .i64 L.b0, .int .i64 L.a1, .int .i64 L.b1, .int .i64 L.a2, .int .i64 L.b2] 44) = w17 at *
  generalize w16.heap.size = nb at *
  have hc17 : cb ≤ w17.heap.size := by have := BG17.lt; omega
  have LN : LsAt w17 w17.heap.size (some (.slice (some ⟨nb, 0, none⟩) 1 1)) [L] := ls_blk (l := [L]) BN17 rfl (by omega)
  have J1' := (J1.more hc17).setOut LN (by show 1 ≤ 1000; omega)
  have hR2 := Rd.of_blk BG17 hct2 (by rw [← hct2, List.length_take, Array.length_toList, Array.size_setIfInBounds, hcs, Nat.min_eq_left]; omega)
  have CD : CaseAt w17 w17.heap.size (csA.setIfInBounds 5 (.slice (some ⟨g, 0, none⟩) 2 cap)) [j0, j1.setIfInBounds 4 (.slice (some ⟨nb, 0, none⟩) 1 1)] (dS { (cS 3).jobAt 1 with mo := [L] }) :=
    (C17.more hc17).setJobs (cj := cap) (jobs' := [bareJob 3 [lS], { (cS 3).jobAt 1 with mo := [L] }]) hR2 rfl (fun k jc hk => by
      match k, hk with
      | 0, hk =>
        obtain rfl : j0 = jc := by simpa using hk
        exact J0.more hc17
      | 1, hk =>
        obtain rfl : _ = jc := by simpa using hk
        exact J1'
      | k + 2, hk => simp at hk)
  have q := hP.of CD (hG.below hb17) (dS_silent (by unfold Jb.emptyB; rw [decide_eq_false]; show ¬ (_ + _ + 1 = 0); omega))
  have LC := load_case BO17 CD.size
  have hj49 : ∀ y ∈ [j0, j1.setIfInBounds 4 (.slice (some ⟨nb, 0, none⟩) 1 1)], y.toList.length = 49 := fun y hy => by
    rcases List.mem_cons.1 hy with rfl | hy
    · simpa using J0.1
    · obtain rfl : y = j1.setIfInBounds 4 (.slice (some ⟨nb, 0, none⟩) 1 1) := by simpa using hy
      simpa using J1'.1
  have hsX := CD.size
  clear CD J1 J1' LN hR2
  apply wp_region_lit
  refine wpList_loadG (by rfl) (by rfl) (by rfl) LC ?_
  simp only [Act.put, List.setIfInBounds_toArray, List.set_cons_zero, List.set_cons_succ]
  clear LC
  go_wp2_with fail
  (with_reducible refine q.mono ?_)
  rintro e w18 ⟨rfl, b18⟩
  have BO18 := BO17.below b18 BO17.lt
  have BG18 := BG17.below b18 BG17.lt
  have C18 := C17.below (b18.mono hc17)
  have J018 := J0.below (b18.mono hc17)
  have hb18 := bCall hb17 b18
  clear q BO17 BG17 C17 J0 hb17 BN17 b18
  have x5 : w18.cell? ⟨ob, 5, none⟩ = some (.slice (some ⟨g, 0, none⟩) 2 cap) := (BO18.cell 5).trans hX5
  go_upto_region 16 with fail
  apply wp_region_lit
  have hcz : (cur.setIfInBounds (49 + 4) (.slice (some ⟨nb, 0, none⟩) 1 1)).size = cap * 49 := by rw [Array.size_setIfInBounds]; exact hcs
  generalize hcu : cur.setIfInBounds (49 + 4) (.slice (some ⟨nb, 0, none⟩) 1 1) = cur2 at *
  iterate 12 go_step
  have hn98 : 49 + 49 ≤ cap * 49 := by omega
  have ⟨hz49, hz1, _, _⟩ := zJobC_in w18
  refine wpList_storeG (q := .pointer (some ⟨g, 49, none⟩)) (v := .agg zJobC) (by rfl) (by rfl) (by rfl) (by rfl) (store_at BG18 (by rw [hz49]; exact job_info) (by rw [hz49, hcz]; omega) hz1) ?_
  simp only [Act.put]
  rw [hz49]
  have hct3 : (cur2.toList.take 49 ++ zJobC.toList ++ cur2.toList.drop (49 + 49)).toArray.toList.take (2 * 49) = [j0, zJobC].flatMap Array.toList := by
    have := take_seg (l := cur2.toList) (x := zJobC.toList) (o := 49) (n := 2 * 49) (by rw [Array.length_toList, hz49]; omega) (by rw [Array.length_toList, hcz]; omega)
    rw [Array.length_toList, hz49] at this
    rw [List.toList_toArray, this, hct2]
    exact flatA_set (sz := 49) _ 1 zJobC hj49 (by simp)
  have hlen3 : (cur2.toList.take 49 ++ zJobC.toList ++ cur2.toList.drop (49 + 49)).toArray.size = cap * 49 := by
    simp only [List.size_toArray, List.length_append, List.length_take, List.length_drop, Array.length_toList, hz49, hcz]
    omega
  have BG19 := BG18.row (cur2.toList.take 49 ++ zJobC.toList ++ cur2.toList.drop (49 + 49)).toArray
  generalize (cur2.toList.take 49 ++ zJobC.toList ++ cur2.toList.drop (49 + 49)).toArray = cur3 at *
  have BO19 := BO18.farRow (g' := g) (by omega) cur3
  have C19 := C18.below (below_setRow (Below.refl cb w18) (show cb ≤ g by omega) cur3)
  have J19 := J018.below (below_setRow (Below.refl cb w18) (show cb ≤ g by omega) cur3)
  have hb19 := below_setRow hb18 (show W.heap.size ≤ g by omega) cur3
  clear BG18 BO18 C18 J018 hb18 x5 hct2
  generalize w18.setRow g cur3 = w19 at *
  have hc19 : cb ≤ w19.heap.size := by have := BG19.lt; omega
  have hR3 := Rd.of_blk BG19 hct3 (by rw [← hct3, List.length_take, Array.length_toList, hlen3, Nat.min_eq_left]; omega)
  have CD : CaseAt w19 w19.heap.size (csA.setIfInBounds 5 (.slice (some ⟨g, 0, none⟩) 2 cap)) [j0, zJobC] (dS zeroJ) :=
    (C19.more hc19).setJobs (cj := cap) (jobs' := [bareJob 3 [lS], zeroJ]) hR3 rfl (fun k jc hk => by
      match k, hk with
      | 0, hk =>
        obtain rfl : j0 = jc := by simpa using hk
        exact J19.more hc19
      | 1, hk =>
        obtain rfl : _ = jc := by simpa using hk
        exact zJobC_in w19
      | k + 2, hk => simp at hk)
  have q := hP.of CD (hG.below hb19) dS_zero
  have LC := load_case BO19 CD.size
  clear CD hR3
  go_upto_region 17 with fail
  apply wp_region_lit
  refine wpList_loadG (by rfl) (by rfl) (by rfl) LC ?_
  simp only [Act.put, List.setIfInBounds_toArray, List.set_cons_zero, List.set_cons_succ]
  clear LC
  go_wp2_with fail
  (with_reducible refine q.mono ?_)
  rintro e w20 ⟨rfl, b20⟩
  go_wp2_with fail
  go_ret
  exact ⟨rfl, bCall hb19 b20⟩
end Go.Proofs.YthgppaiiapkdjaaGreatDoor
