/-
  frankinglaw55.PathsLater answers true at every input, and leaves its arguments as they were; the listed variables lie as the program's text lays them (tied by the card).
-/
import Derived.Test.YthgppaiiapkdjaaDoorMbp
import Derived.Test.YthgppaiiapkdjaaDoorMbn
import Derived.Test.YthgppaiiapkdjaaDoorZLwJ
import Derived.Test.YthgppaiiapkdjaaDoorMbj
namespace Go.Proofs.YthgppaiiapkdjaaDoor
open Go.ChangeShapes Go.WideShapes Go.RowKit

theorem check_all : CheckOk := fun cs jcs c W h hG => pa_check cs jcs c W h hG
theorem sane_all : SaneOk := fun W hG => lw_sane check_all W hG
def zCaseC : Array Value := #[.int .i64 0, .int .i64 0, .int .i64 0, .slice none 0 0, .slice none 0 0, .slice none 0 0, .int .i64 0, .int .i64 0, .int .i64 0, .int .i64 0, .int .i64 0, .int .i64 0, .int .i64 0, .slice none 0 0, .int .i64 0]

set_option maxRecDepth 100000 in
theorem later_lifted (os : Os) (started : os.Started) (H : Type) (enc : TypeId × Value → H) :
    ReturnsInHanded {} Tryd.checked os 3 .any (fun w args => (Rows.pathsLaterSpec.pre enc Tryd.prog Tryd.f3 [] false w args ∧ laidMetH Tryd.prog shaLaid w) ∧ sizedMet enc Tryd.prog Tryd.f3 (OpenSpec.ofChange Rows.pathsLaterSpec) false w args)
      (Rows.pathsLaterSpec.post enc Tryd.prog Tryd.f3 false true false false) := by
  refine returnsInHanded_of_change_and (C := Tryd.checked) (X := fun w _ => laidMetH Tryd.prog shaLaid w) (fun _ _ _ hh h => h.of_heap hh) own_knob started (by kernel_rfl) Tryd.func3
    (ChangeSpec.witness_at (enc := enc) (C := Tryd.checked) (os := os) (X := fun w _ => laidMetH Tryd.prog shaLaid w) false (laidWorld os) #[.agg zCaseC, .agg zJobC, .int .i64 0] 12 rfl (by kernel_rfl) (by kernel_rfl) (by kernel_rfl) (by kernel_rfl) (by kernel_rfl)
      (show laidMet Tryd.prog shaLaid _ from laidMet_of_run (ps := MemPlace.row ⟨0, 0, none⟩ 8 ++ [] ++ (MemPlace.row ⟨1, 0, none⟩ 64 ++ [] ++ [])) 12 (by kernel_rfl) (by kernel_rfl) (by kernel_rfl))) ?_
  intro W base args ds gs before hval0 hW _ hwt hL _
  have hval : ∀ (j : Nat) t v, Tryd.f3.params[j]? = some t → args[j]? = some v → Value.okWide Tryd.prog W .any base t v := hval0
  have hW' := hW
  obtain ⟨p, q, hA0, hV, rfl, hfz, hnd⟩ := hW
  have hA : DataW.TrodAll enc Tryd.prog W 0 (fun _ => true) true Tryd.f3.params.toList args.toList ds p := hA0
  rw [Tryd.params3] at hA hval hwt
  have hA2 := hA
  obtain ⟨rfl, rfl⟩ := trodVars_none hV
  obtain ⟨v0, v1, v2, d0, d1, d2, p0, p1, p2, rfl, rfl, rfl, h0, h1, h2⟩ := trodAll_three hA
  have l0 : Light Tryd.prog 33 d0 := light_each hwt 0 _ _ rfl rfl
  have l1 : Light Tryd.prog 45 d1 := light_each hwt 1 _ _ rfl rfl
  obtain ⟨t, rfl, rfl, rfl, w2⟩ := open_int Tryd.underlying3 (hval 2 3 v2 rfl rfl) h2
  obtain ⟨f0, hf0⟩ := h0
  obtain ⟨f1, hf1⟩ := h1
  obtain ⟨jcs, c, hC, _⟩ := in_case hf0 l0
  obtain ⟨⟨jc, j⟩, e1, e2, hJ⟩ := in_job _ _ _ hf1 l1
  obtain ⟨cs0, rfl, e3⟩ := agg_of_cells (v := v0) (by have := hC.size; simp at this; omega)
  have e6 : v1.cells.toList.length = 49 := by rw [e1]; exact e2
  obtain ⟨cs1, rfl, e4⟩ := agg_of_cells (v := v1) (by simp at e6; omega)
  have e5 : jc = cs1 := by
    have : jc.toList = cs1.toList := e1.symm
    exact Array.toList_inj.1 this
  subst e5
  have hC' : CaseAt W W.heap.size cs0 jcs c := by simpa [Value.cells] using hC
  refine (lw_later sane_all check_all cs0 jcs c jc j t W (sha_of_laid hL) hC' hJ).mono fun e W' ⟨he, bel⟩ => ?_
  subst he
  exact ⟨_, rfl, _, _, _, [], _, [], hW', trodAll_mk1 (shut_bool Tryd.underlying4 _), trodAll_stays bel (by
    rw [Tryd.params3]
    exact of_decide_eq_true (by kernel_rfl)) hA0, rfl, bel.frame _, fun h => by cases h⟩

theorem pathsLater_row : Rows.PathsLaterSaid :=
  OpenClaim.holds_of_wide 3 Tryd.f3 rfl rfl rfl rfl rfl rfl rfl ⟨rfl, rfl, rfl, rfl, rfl⟩ rfl rfl rfl rfl rfl (by kernel_rfl) Tryd.func3 (by kernel_rfl)
    (of_decide_eq_true (by kernel_rfl)) (by unfold Func.isWrapper; first | (rw [if_pos (by decide +kernel)]; kernel_rfl) | (rw [if_neg (by decide +kernel)]; exact ⟨rfl, rfl⟩))
    (fun os started H enc _ => later_lifted os started H enc)

theorem pathsLater_holds : Rows.PathsLaterCardSaid :=
  Claim7.holds_tied_plain_at .later [] [.data, .data] true (true, "6c368fb5b7e1acf3660a4b8280c7cbdb813404887e4c20ee80b5f3c2dd7c287f") true
    pathsLater_row (fun _ h => by cases h) (by kernel_rfl) (fun _ h => by cases h) pathsLater_row_tie rfl ⟨rfl, rfl⟩ (by kernel_rfl) rfl
    (fun f fn hf hfn => by
      obtain rfl : f = 3 := Option.some.inj ((show Tryd.prog.funcNamed "franking/frankinglaw55.PathsLater" = some 3 by kernel_rfl).symm.trans hf) |>.symm
      obtain rfl : fn = Tryd.f3 := (Option.some.inj (Tryd.func3.symm.trans hfn)).symm
      exact ⟨by kernel_rfl, fun j t ht => by
        rw [Tryd.params3] at ht
        have hall : (List.all [33, 45, 3] fun t => !Tryd.prog.wantsStandIn t) = true := by kernel_rfl
        have := List.all_eq_true.1 hall t (List.mem_of_getElem? (by simpa using ht))
        show Tryd.prog.wantsStandIn t = false
        simpa using this⟩)
    (by kernel_rfl)
#print axioms pathsLater_holds
end Go.Proofs.YthgppaiiapkdjaaDoor
