/-
  frankinglaw55.PathsOnly answers true at every input, and leaves its arguments as they were; the listed variables lie as the program's text lays them (tied by the card).
-/
import Derived.Test.YthgppaiiapkdjaaDoorZRowP
import Derived.Test.YthgppaiiapkdjaaDoorZLwM
namespace Go.Proofs.YthgppaiiapkdjaaDoor
open Go.ChangeShapes Go.WideShapes Go.RowKit

set_option maxRecDepth 100000 in
theorem only_lifted (os : Os) (started : os.Started) (H : Type) (enc : TypeId × Value → H) :
    ReturnsInHanded {} Tryd.checked os 6 .any (fun w args => (Rows.pathsOnlySpec.pre enc Tryd.prog Tryd.f6 [] false w args ∧ laidMetH Tryd.prog shaLaid w) ∧ sizedMet enc Tryd.prog Tryd.f6 (OpenSpec.ofChange Rows.pathsOnlySpec) false w args)
      (Rows.pathsOnlySpec.post enc Tryd.prog Tryd.f6 false true false false) := by
  refine returnsInHanded_of_change_and (C := Tryd.checked) (X := fun w _ => laidMetH Tryd.prog shaLaid w) (fun _ _ _ hh h => h.of_heap hh) own_knob started (by kernel_rfl) Tryd.func6
    (ChangeSpec.witness_at (enc := enc) (C := Tryd.checked) (os := os) (X := fun w _ => laidMetH Tryd.prog shaLaid w) false (laidWorld os) #[.agg zCaseC, .slice none 0 0] 12 rfl (by kernel_rfl) (by kernel_rfl) (by kernel_rfl) (by kernel_rfl) (by kernel_rfl)
      (show laidMet Tryd.prog shaLaid _ from laidMet_of_run (ps := MemPlace.row ⟨0, 0, none⟩ 8 ++ [] ++ (MemPlace.row ⟨1, 0, none⟩ 64 ++ [] ++ [])) 12 (by kernel_rfl) (by kernel_rfl) (by kernel_rfl))) ?_
  intro W base args ds gs before hval0 hW _ hwt hL _
  have hval : ∀ (j : Nat) t v, Tryd.f6.params[j]? = some t → args[j]? = some v → Value.okWide Tryd.prog W .any base t v := hval0
  have hW' := hW
  obtain ⟨p, q, hA0, hV, rfl, hfz, hnd⟩ := hW
  have hA : DataW.TrodAll enc Tryd.prog W 0 (fun _ => true) true Tryd.f6.params.toList args.toList ds p := hA0
  rw [Tryd.params6] at hA hval hwt
  obtain ⟨rfl, rfl⟩ := trodVars_none hV
  obtain ⟨v0, v1, d0, d1, p0, p1, rfl, rfl, rfl, h0, h1⟩ := trodAll_two hA
  have l0 : Light Tryd.prog 33 d0 := light_each hwt 0 _ _ rfl rfl
  have l1 : Light Tryd.prog 25 d1 := light_each hwt 1 _ _ rfl rfl
  obtain ⟨A1', n1', c1', rfl⟩ := okWide_slice Tryd.underlying25 (hval 1 25 v1 rfl rfl)
  obtain ⟨f0, hf0⟩ := h0
  obtain ⟨jcs, c, hC, _⟩ := in_case hf0 l0
  obtain ⟨cs0, rfl, e3⟩ := agg_of_cells (v := v0) (by have := hC.size; simp at this; omega)
  have hC' : CaseAt W W.heap.size cs0 jcs c := by simpa [Value.cells] using hC
  obtain ⟨f1, hf1⟩ := h1
  obtain ⟨A1, c1, ss, es, -, -, -, hR1, -⟩ := open_slice_w Tryd.underlying25 c_int (by omega) (f := fun z : Int => [Value.int .i64 z]) (Pr := fun _ => True) (fun n cs y h _ => by obtain ⟨z, e, _⟩ := in_int h; exact ⟨z, e, rfl, trivial⟩) hf1 l1
  rw [show ss.flatMap (fun z : Int => [Value.int .i64 z]) = ints ss from ints_flat ss] at hR1
  simp [Value.cells] at es
  obtain ⟨rfl, rfl, rfl⟩ := es
  refine (lw_only sane_all check_all cs0 jcs c _ _ ss W (sha_of_laid hL) hC' hR1).mono fun e W' ⟨he, bel⟩ => ?_
  subst he
  exact ⟨_, rfl, _, _, _, [], _, [], hW', trodAll_mk1 (shut_bool Tryd.underlying4 _), trodAll_stays bel (by
    rw [Tryd.params6]
    exact of_decide_eq_true (by kernel_rfl)) hA0, rfl, bel.frame _, fun h => by cases h⟩

theorem pathsOnly_row : Rows.PathsOnlySaid :=
  OpenClaim.holds_of_wide 6 Tryd.f6 rfl rfl rfl rfl rfl rfl rfl ⟨rfl, rfl, rfl, rfl, rfl⟩ rfl rfl rfl rfl rfl (by kernel_rfl) Tryd.func6 (by kernel_rfl)
    (of_decide_eq_true (by kernel_rfl)) (by unfold Func.isWrapper; first | (rw [if_pos (by decide +kernel)]; kernel_rfl) | (rw [if_neg (by decide +kernel)]; exact ⟨rfl, rfl⟩))
    (fun os started H enc _ => only_lifted os started H enc)

theorem pathsOnly_holds : Rows.PathsOnlyCardSaid :=
  Claim7.holds_tied_plain_at .later [] [.data, .data] true (true, "6c368fb5b7e1acf3660a4b8280c7cbdb813404887e4c20ee80b5f3c2dd7c287f") true
    pathsOnly_row (fun _ h => by cases h) (by kernel_rfl) (fun _ h => by cases h) pathsOnly_row_tie rfl ⟨rfl, rfl⟩ (by kernel_rfl) rfl
    (fun f fn hf hfn => by
      obtain rfl : f = 6 := Option.some.inj ((show Tryd.prog.funcNamed "franking/frankinglaw55.PathsOnly" = some 6 by kernel_rfl).symm.trans hf) |>.symm
      obtain rfl : fn = Tryd.f6 := (Option.some.inj (Tryd.func6.symm.trans hfn)).symm
      exact ⟨by kernel_rfl, fun j t ht => by
        rw [Tryd.params6] at ht
        have hall : (List.all [33, 25] fun t => !Tryd.prog.wantsStandIn t) = true := by kernel_rfl
        have := List.all_eq_true.1 hall t (List.mem_of_getElem? (by simpa using ht))
        show Tryd.prog.wantsStandIn t = false
        simpa using this⟩)
    (by kernel_rfl)
#print axioms pathsOnly_holds
end Go.Proofs.YthgppaiiapkdjaaDoor
