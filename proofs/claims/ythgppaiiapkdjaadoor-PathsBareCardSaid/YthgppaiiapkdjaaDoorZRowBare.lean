/-
  frankinglaw55.PathsBare answers true at every input, and leaves its arguments as they were; the listed variables lie as the program's text lays them (tied by the card).
-/
import Derived.Test.YthgppaiiapkdjaaDoorZRowP
import Derived.Test.YthgppaiiapkdjaaDoorZLwN
namespace Go.Proofs.YthgppaiiapkdjaaDoor
open Go.ChangeShapes Go.WideShapes Go.RowKit

set_option maxRecDepth 100000 in
theorem pbare_lifted (os : Os) (started : os.Started) (H : Type) (enc : TypeId × Value → H) :
    ReturnsInHanded {} Tryd.checked os 5 .any (fun w args => (Rows.pathsBareSpec.pre enc Tryd.prog Tryd.f5 [] false w args ∧ laidMetH Tryd.prog shaLaid w) ∧ sizedMet enc Tryd.prog Tryd.f5 (OpenSpec.ofChange Rows.pathsBareSpec) false w args)
      (Rows.pathsBareSpec.post enc Tryd.prog Tryd.f5 false true false false) := by
  refine returnsInHanded_of_change_and (C := Tryd.checked) (X := fun w _ => laidMetH Tryd.prog shaLaid w) (fun _ _ _ hh h => h.of_heap hh) own_knob started (by kernel_rfl) Tryd.func5
    (ChangeSpec.witness_at (enc := enc) (C := Tryd.checked) (os := os) (X := fun w _ => laidMetH Tryd.prog shaLaid w) false (laidWorld os) #[.slice none 0 0, .slice none 0 0, .slice none 0 0, .int .i64 0, .agg #[.int .i64 0, .int .i64 0, .int .i64 0]] 12 rfl (by kernel_rfl) (by kernel_rfl) (by kernel_rfl) (by kernel_rfl) (by kernel_rfl)
      (show laidMet Tryd.prog shaLaid _ from laidMet_of_run (ps := MemPlace.row ⟨0, 0, none⟩ 8 ++ [] ++ (MemPlace.row ⟨1, 0, none⟩ 64 ++ [] ++ [])) 12 (by kernel_rfl) (by kernel_rfl) (by kernel_rfl))) ?_
  intro W base args ds gs before hval0 hW _ hwt hL _
  have hval : ∀ (j : Nat) t v, Tryd.f5.params[j]? = some t → args[j]? = some v → Value.okWide Tryd.prog W .any base t v := hval0
  have hW' := hW
  obtain ⟨p, q, hA0, hV, rfl, hfz, hnd⟩ := hW
  have hA : DataW.TrodAll enc Tryd.prog W 0 (fun _ => true) true Tryd.f5.params.toList args.toList ds p := hA0
  rw [Tryd.params5] at hA hval hwt
  obtain ⟨rfl, rfl⟩ := trodVars_none hV
  obtain ⟨v0, v1, v2, v3, v4, d0, d1, d2, d3, d4, p0, p1, p2, p3, p4, rfl, rfl, h0, h1, h2, h3, h4⟩ := trodAll_five hA
  have l0 : Light Tryd.prog 25 d0 := light_each hwt 0 _ _ rfl rfl
  have l1 : Light Tryd.prog 59 d1 := light_each hwt 1 _ _ rfl rfl
  have l2 : Light Tryd.prog 60 d2 := light_each hwt 2 _ _ rfl rfl
  have l4 : Light Tryd.prog 28 d4 := light_each hwt 4 _ _ rfl rfl
  obtain ⟨t, rfl, rfl, rfl, w2⟩ := open_int Tryd.underlying3 (hval 3 3 v3 rfl rfl) h3
  obtain ⟨A0', n0', c0', rfl⟩ := okWide_slice Tryd.underlying25 (hval 0 25 v0 rfl rfl)
  obtain ⟨A1', n1', c1', rfl⟩ := okWide_slice Tryd.underlying59 (hval 1 59 v1 rfl rfl)
  obtain ⟨A2', n2', c2', rfl⟩ := okWide_slice Tryd.underlying60 (hval 2 60 v2 rfl rfl)
  obtain ⟨f0, hf0⟩ := h0
  obtain ⟨A0, c0, ss, es, -, -, -, hR0, -⟩ := open_slice_w Tryd.underlying25 c_int (by omega) (f := fun z : Int => [Value.int .i64 z]) (Pr := fun _ => True) (fun n cs y h _ => by obtain ⟨z, e, _⟩ := in_int h; exact ⟨z, e, rfl, trivial⟩) hf0 l0
  rw [show ss.flatMap (fun z : Int => [Value.int .i64 z]) = ints ss from ints_flat ss] at hR0
  simp [Value.cells] at es
  obtain ⟨rfl, rfl, rfl⟩ := es
  obtain ⟨f1, hf1⟩ := h1
  obtain ⟨A1, c1, ws, e1, -, -, -, hR1, -⟩ := open_slice_w Tryd.underlying59 c_words (by omega) (f := Wd.cl) (Pr := fun _ => True) (fun n cs y h hw => by obtain ⟨a, b, c, e, _⟩ := in_ints Tryd.underlying28 c_words h hw; exact ⟨⟨a, b, c⟩, e, rfl, trivial⟩) hf1 l1
  simp [Value.cells] at e1
  obtain ⟨rfl, rfl, rfl⟩ := e1
  obtain ⟨f2, hf2⟩ := h2
  obtain ⟨A2, c2, rs, e2, -, -, -, hR2, -⟩ := open_slice_w Tryd.underlying60 c_three (by omega) (f := Wd.cl) (Pr := fun _ => True) (fun n cs y h hw => by obtain ⟨a, b, c, e, _⟩ := in_ints Tryd.underlying27 c_three h hw; exact ⟨⟨a, b, c⟩, e, rfl, trivial⟩) hf2 l2
  simp [Value.cells] at e2
  obtain ⟨rfl, rfl, rfl⟩ := e2
  obtain ⟨f4, hf4⟩ := h4
  obtain ⟨ox, oy, oz, e4, -⟩ := in_ints Tryd.underlying28 c_words hf4 l4
  have e5 : v4.cells.toList.length = 3 := by rw [e4]; rfl
  obtain ⟨cs4, rfl, e6⟩ := agg_of_cells (v := v4) (by simp at e5; omega)
  have e7 : cs4 = #[.int .i64 ox, .int .i64 oy, .int .i64 oz] := by
    have : cs4.toList = [.int .i64 ox, .int .i64 oy, .int .i64 oz] := e4
    exact Array.toList_inj.1 this
  subst e7
  refine (lw_pbare sane_all check_all _ _ _ _ _ _ ss ws rs t ⟨ox, oy, oz⟩ W (sha_of_laid hL) hR0 hR1 hR2).mono fun e W' ⟨he, bel⟩ => ?_
  subst he
  exact ⟨_, rfl, _, _, _, [], _, [], hW', trodAll_mk1 (shut_bool Tryd.underlying4 _), trodAll_stays bel (by
    rw [Tryd.params5]
    exact of_decide_eq_true (by kernel_rfl)) hA0, rfl, bel.frame _, fun h => by cases h⟩

theorem pathsBare_row : Rows.PathsBareSaid :=
  OpenClaim.holds_of_wide 5 Tryd.f5 rfl rfl rfl rfl rfl rfl rfl ⟨rfl, rfl, rfl, rfl, rfl⟩ rfl rfl rfl rfl rfl (by kernel_rfl) Tryd.func5 (by kernel_rfl)
    (of_decide_eq_true (by kernel_rfl)) (by unfold Func.isWrapper; first | (rw [if_pos (by decide +kernel)]; kernel_rfl) | (rw [if_neg (by decide +kernel)]; exact ⟨rfl, rfl⟩))
    (fun os started H enc _ => pbare_lifted os started H enc)

theorem pathsBare_holds : Rows.PathsBareCardSaid :=
  Claim7.holds_tied_plain_at .later [] [.data, .data] true (true, "6c368fb5b7e1acf3660a4b8280c7cbdb813404887e4c20ee80b5f3c2dd7c287f") true
    pathsBare_row (fun _ h => by cases h) (by kernel_rfl) (fun _ h => by cases h) pathsBare_row_tie rfl ⟨rfl, rfl⟩ (by kernel_rfl) rfl
    (fun f fn hf hfn => by
      obtain rfl : f = 5 := Option.some.inj ((show Tryd.prog.funcNamed "franking/frankinglaw55.PathsBare" = some 5 by kernel_rfl).symm.trans hf) |>.symm
      obtain rfl : fn = Tryd.f5 := (Option.some.inj (Tryd.func5.symm.trans hfn)).symm
      exact ⟨by kernel_rfl, fun j t ht => by
        rw [Tryd.params5] at ht
        have hall : (List.all [25, 59, 60, 3, 28] fun t => !Tryd.prog.wantsStandIn t) = true := by kernel_rfl
        have := List.all_eq_true.1 hall t (List.mem_of_getElem? (by simpa using ht))
        show Tryd.prog.wantsStandIn t = false
        simpa using this⟩)
    (by kernel_rfl)
#print axioms pathsBare_holds
end Go.Proofs.YthgppaiiapkdjaaDoor
