/-
  frankinglaw59.ReportsWrong answers true at every input, and leaves its arguments as they were; the listed variables lie as the program's text lays them (tied by the card).
-/
import Derived.Test.YtmbopkcmbiommaaGreatDoorMbw
namespace Go.Proofs.YtmbopkcmbiommaaGreatDoor
open Go Go.ChangeShapes Go.WideShapes Go.ChangeAt Go.RowKit Go.Deep
open Go.ChangeMaps (open_string)

theorem trodAll_Wrong {H : Type} {enc : TypeId × Value → H} {P : Program} {w : World} {base : Nat} {spare : Nat → Bool} {held : Bool} {t0 t1 t2 : TypeId} {args : Array Value} {ds : List (DataW H)} {ps : List MemPlace}
    (h : DataW.TrodAll enc P w base spare held [t0, t1, t2] args.toList ds ps) :
    ∃ v0 v1 v2 d0 d1 d2 p0 p1 p2, args = #[v0, v1, v2] ∧ ds = [d0, d1, d2] ∧ DataW.Trod enc P w base spare held t0 v0 d0 p0 ∧ DataW.Trod enc P w base spare held t1 v1 d1 p1 ∧ DataW.Trod enc P w base spare held t2 v2 d2 p2 := by
  obtain ⟨v0, vs0, d0, ds0, p0, q0, hargs, rfl, rfl, hd0, r0⟩ := trodAll_cons h
  obtain ⟨v1, vs1, d1, ds1, p1, q1, rfl, rfl, rfl, hd1, r1⟩ := trodAll_cons r0
  obtain ⟨v2, vs2, d2, ds2, p2, q2, rfl, rfl, rfl, hd2, r2⟩ := trodAll_cons r1
  obtain ⟨rfl, rfl, rfl⟩ := trodAll_nil r2
  exact ⟨v0, v1, v2, d0, d1, d2, p0, p1, p2, by cases args; simp_all, rfl, hd0, hd1, hd2⟩
set_option maxRecDepth 1000000 in
theorem wrg_laid (os : Os) : LaidIn Tryz.prog ((laidWorldR os).forCall (fun _ _ => 0) ⟨#[], #[.agg (nilWS.cl zeroW).toArray, .int .u16 0, .int .u8 0], []⟩).memory repLaid [6, 7, 3, 2, 5, setN, 4, setN + 1, 1] :=
  LaidIn.of_run [6, 7, 3, 2, 5, setN, 4, setN + 1, 1] 10 (by kernel_rfl) (by kernel_rfl) (by kernel_rfl) (by kernel_rfl)
set_option maxRecDepth 100000 in
set_option maxHeartbeats 16000000 in
theorem wrg_lifted (os : Os) (started : os.Started) (H : Type) (enc : TypeId × Value → H) :
    ReturnsInHanded {} Tryz.checked os 6 .any (fun w args => (Rows.reportsWrongSpec.pre enc Tryz.prog Tryz.f6 [] false w args ∧ laidMetH Tryz.prog repLaid w) ∧ sizedMet enc Tryz.prog Tryz.f6 (OpenSpec.ofChange Rows.reportsWrongSpec) false w args)
      (Rows.reportsWrongSpec.post enc Tryz.prog Tryz.f6 false true false false) := by
  refine returns_shaped (C := Tryz.checked) (X := fun w _ => laidMetH Tryz.prog repLaid w) (fun _ _ _ hh h => h.of_heap hh) own_knob started (by kernel_rfl) Tryz.func6
    (ChangeSpec.witness_at (enc := enc) (C := Tryz.checked) (os := os) (X := fun w _ => laidMetH Tryz.prog repLaid w) false (laidWorldR os) #[.agg (nilWS.cl zeroW).toArray, .int .u16 0, .int .u8 0] 12 rfl (by kernel_rfl) (by kernel_rfl) (by kernel_rfl) (by kernel_rfl) (by kernel_rfl)
      (show laidMet Tryz.prog repLaid _ from (wrg_laid os).met)) ?_
  intro W base args ds gs before hval0 hW hwt hL hsh
  have hW' := hW
  obtain ⟨p, q, hA0, hV, rfl, hfz, hnd⟩ := hW'
  have hA : DataW.TrodAll enc Tryz.prog W 0 (fun _ => true) true Tryz.f6.params.toList args.toList ds p := hA0
  have hval : ∀ (j : Nat) t v, Tryz.f6.params[j]? = some t → args[j]? = some v → Value.okWide Tryz.prog W .any base t v := hval0
  rw [Tryz.params6] at hA hwt hval
  obtain ⟨rfl, rfl⟩ := trodVars_none hV
  obtain ⟨v0, v1, v2, d0, d1, d2, p0, p1, p2, rfl, rfl, h0, h1, h2⟩ := trodAll_Wrong hA
  have l0 : Light Tryz.prog 35 d0 := light_each hwt 0 _ _ rfl rfl
  obtain ⟨f0, hf0⟩ := h0
  obtain ⟨s0, x0, e0, r0, io0⟩ := io_world hf0 l0
  have z0 : v0.cells.size = 43 := by have h9 := wsCl_length (s := s0) io0.seed; rw [← e0] at h9; simpa using h9
  obtain ⟨y0, rfl, g0⟩ := agg_of_cells (v := v0) (by omega)
  rw [g0] at e0
  obtain rfl : y0 = (s0.cl x0).toArray := by rw [← e0]
  obtain ⟨f1, hf1⟩ := h1
  obtain ⟨b1, rfl⟩ := okWide_int Tryz.underlying47 (hval 1 47 v1 rfl rfl)
  obtain ⟨z1, e1, r1⟩ := in_u16 hf1
  obtain rfl : b1 = (z1 : Nat) := by simpa [Value.cells] using e1
  obtain ⟨f2, hf2⟩ := h2
  obtain ⟨b2, rfl⟩ := okWide_int Tryz.underlying5 (hval 2 5 v2 rfl rfl)
  obtain ⟨z2, e2, r2⟩ := in_u8 hf2
  obtain rfl : b2 = (z2 : Nat) := by simpa [Value.cells] using e2
  refine (lw_wrong s0 x0 z1 z2 W r0 io0 r1 r2 (lib_of_laid hL hsh)).mono fun e W' ⟨he, bel⟩ => ?_
  subst he
  exact ⟨_, rfl, _, _, _, [], _, [], hW, trodAll_mk1 (shut_bool Tryz.underlying4 _), trodAll_stays bel (by
    rw [Tryz.params6]
    exact of_decide_eq_true (by kernel_rfl)) hA0, rfl, bel.frame _, fun h => by cases h⟩

theorem wrg_row : Rows.ReportsWrongSaid :=
  OpenClaim.holds_of_wide 6 Tryz.f6 rfl rfl rfl rfl rfl rfl rfl ⟨rfl, rfl, rfl, rfl, rfl⟩ rfl rfl rfl rfl rfl (by kernel_rfl) Tryz.func6 (by kernel_rfl)
    (of_decide_eq_true (by kernel_rfl)) (by unfold Func.isWrapper; first | (rw [if_pos (by decide +kernel)]; kernel_rfl) | (rw [if_neg (by decide +kernel)]; exact ⟨rfl, rfl⟩))
    (fun os started H enc _ => wrg_lifted os started H enc)

theorem reportsWrong_holds : Rows.ReportsWrongCardSaid :=
  Claim7.holds_tied_plain_at .later [] _ _ _ _
    wrg_row (fun _ h => by cases h) (by kernel_rfl) (fun _ h => by cases h) reportsWrong_row_tie rfl ⟨rfl, rfl⟩ (by kernel_rfl) rfl
    (fun f fn hf hfn => by
      obtain rfl : f = 6 := Option.some.inj ((show Tryz.prog.funcNamed "franking/frankinglaw59.ReportsWrong" = some 6 by kernel_rfl).symm.trans hf) |>.symm
      obtain rfl : fn = Tryz.f6 := (Option.some.inj (Tryz.func6.symm.trans hfn)).symm
      exact ⟨by kernel_rfl, fun j t ht => by
        rw [Tryz.params6] at ht
        have hall : (List.all [35, 47, 5] fun t => !Tryz.prog.wantsStandIn t) = true := by kernel_rfl
        have := List.all_eq_true.1 hall t (List.mem_of_getElem? (by simpa using ht))
        show Tryz.prog.wantsStandIn t = false
        simpa using this⟩)
    (by kernel_rfl)
#print axioms reportsWrong_holds
end Go.Proofs.YtmbopkcmbiommaaGreatDoor
