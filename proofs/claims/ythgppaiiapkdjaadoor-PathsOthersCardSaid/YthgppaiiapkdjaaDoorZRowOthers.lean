/-
  frankinglaw55.PathsOthers answers true at every input, and leaves its arguments as they were; the listed variables lie as the program's text lays them (tied by the card).
-/
import Derived.Test.YthgppaiiapkdjaaDoorZRowP
import Derived.Test.YthgppaiiapkdjaaDoorZLwL
namespace Go.Proofs.YthgppaiiapkdjaaDoor
open Go.ChangeShapes Go.WideShapes Go.RowKit

set_option maxRecDepth 100000 in
theorem others_lifted (os : Os) (started : os.Started) (H : Type) (enc : TypeId × Value → H) :
    ReturnsInHanded {} Tryd.checked os 4 .any (fun w args => (Rows.pathsOthersSpec.pre enc Tryd.prog Tryd.f4 [] false w args ∧ laidMetH Tryd.prog shaLaid w) ∧ sizedMet enc Tryd.prog Tryd.f4 (OpenSpec.ofChange Rows.pathsOthersSpec) false w args)
      (Rows.pathsOthersSpec.post enc Tryd.prog Tryd.f4 false true false false) := by
  refine returnsInHanded_of_change_and (C := Tryd.checked) (X := fun w _ => laidMetH Tryd.prog shaLaid w) (fun _ _ _ hh h => h.of_heap hh) own_knob started (by kernel_rfl) Tryd.func4
    (ChangeSpec.witness_at (enc := enc) (C := Tryd.checked) (os := os) (X := fun w _ => laidMetH Tryd.prog shaLaid w) false (laidWorld os) #[.agg zCaseC, .int .i64 0, .agg #[.int .i64 0, .int .i64 0, .int .i64 0, .int .i64 0, .int .i64 0, .int .i64 0]] 12 rfl (by kernel_rfl) (by kernel_rfl) (by kernel_rfl) (by kernel_rfl) (by kernel_rfl)
      (show laidMet Tryd.prog shaLaid _ from laidMet_of_run (ps := MemPlace.row ⟨0, 0, none⟩ 8 ++ [] ++ (MemPlace.row ⟨1, 0, none⟩ 64 ++ [] ++ [])) 12 (by kernel_rfl) (by kernel_rfl) (by kernel_rfl))) ?_
  intro W base args ds gs before hval0 hW _ hwt hL _
  have hval : ∀ (j : Nat) t v, Tryd.f4.params[j]? = some t → args[j]? = some v → Value.okWide Tryd.prog W .any base t v := hval0
  have hW' := hW
  obtain ⟨p, q, hA0, hV, rfl, hfz, hnd⟩ := hW
  have hA : DataW.TrodAll enc Tryd.prog W 0 (fun _ => true) true Tryd.f4.params.toList args.toList ds p := hA0
  rw [Tryd.params4] at hA hval hwt
  obtain ⟨rfl, rfl⟩ := trodVars_none hV
  obtain ⟨v0, v1, v2, d0, d1, d2, p0, p1, p2, rfl, rfl, rfl, h0, h1, h2⟩ := trodAll_three hA
  have l0 : Light Tryd.prog 33 d0 := light_each hwt 0 _ _ rfl rfl
  have l2 : Light Tryd.prog 56 d2 := light_each hwt 2 _ _ rfl rfl
  obtain ⟨t, rfl, rfl, rfl, w2⟩ := open_int Tryd.underlying3 (hval 1 3 v1 rfl rfl) h1
  obtain ⟨f0, hf0⟩ := h0
  obtain ⟨jcs, c, hC, _⟩ := in_case hf0 l0
  obtain ⟨cs0, rfl, e3⟩ := agg_of_cells (v := v0) (by have := hC.size; simp at this; omega)
  have hC' : CaseAt W W.heap.size cs0 jcs c := by simpa [Value.cells] using hC
  obtain ⟨f2, hf2⟩ := h2
  obtain ⟨s, e4, _⟩ := in_sealed _ _ _ hf2 l2
  have e5 : v2.cells.toList.length = 6 := by rw [e4]; rfl
  obtain ⟨cs2, rfl, e6⟩ := agg_of_cells (v := v2) (by simp at e5; omega)
  have e7 : cs2 = #[.int .i64 s.a0, .int .i64 s.b0, .int .i64 s.a1, .int .i64 s.b1, .int .i64 s.a2, .int .i64 s.b2] := by
    have : cs2.toList = s.cl := e4
    exact Array.toList_inj.1 this
  subst e7
  refine (lw_others sane_all check_all cs0 jcs c t s W (sha_of_laid hL) hC').mono fun e W' ⟨he, bel⟩ => ?_
  subst he
  exact ⟨_, rfl, _, _, _, [], _, [], hW', trodAll_mk1 (shut_bool Tryd.underlying4 _), trodAll_stays bel (by
    rw [Tryd.params4]
    exact of_decide_eq_true (by kernel_rfl)) hA0, rfl, bel.frame _, fun h => by cases h⟩

theorem pathsOthers_row : Rows.PathsOthersSaid :=
  OpenClaim.holds_of_wide 4 Tryd.f4 rfl rfl rfl rfl rfl rfl rfl ⟨rfl, rfl, rfl, rfl, rfl⟩ rfl rfl rfl rfl rfl (by kernel_rfl) Tryd.func4 (by kernel_rfl)
    (of_decide_eq_true (by kernel_rfl)) (by unfold Func.isWrapper; first | (rw [if_pos (by decide +kernel)]; kernel_rfl) | (rw [if_neg (by decide +kernel)]; exact ⟨rfl, rfl⟩))
    (fun os started H enc _ => others_lifted os started H enc)

theorem pathsOthers_holds : Rows.PathsOthersCardSaid :=
  Claim7.holds_tied_plain_at .later [] [.data, .data] true (true, "6c368fb5b7e1acf3660a4b8280c7cbdb813404887e4c20ee80b5f3c2dd7c287f") true
    pathsOthers_row (fun _ h => by cases h) (by kernel_rfl) (fun _ h => by cases h) pathsOthers_row_tie rfl ⟨rfl, rfl⟩ (by kernel_rfl) rfl
    (fun f fn hf hfn => by
      obtain rfl : f = 4 := Option.some.inj ((show Tryd.prog.funcNamed "franking/frankinglaw55.PathsOthers" = some 4 by kernel_rfl).symm.trans hf) |>.symm
      obtain rfl : fn = Tryd.f4 := (Option.some.inj (Tryd.func4.symm.trans hfn)).symm
      exact ⟨by kernel_rfl, fun j t ht => by
        rw [Tryd.params4] at ht
        have hall : (List.all [33, 3, 56] fun t => !Tryd.prog.wantsStandIn t) = true := by kernel_rfl
        have := List.all_eq_true.1 hall t (List.mem_of_getElem? (by simpa using ht))
        show Tryd.prog.wantsStandIn t = false
        simpa using this⟩)
    (by kernel_rfl)
#print axioms pathsOthers_holds
end Go.Proofs.YthgppaiiapkdjaaDoor
