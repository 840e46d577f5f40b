/-
  frankingtop.TopKeys answers true at every input, and leaves its arguments as they were; the listed variables lie as the program's text lays them (tied by the card).
-/
import Derived.Test.YtoeobcmmafncmaaDoorMbb
import Derived.Test.YtoeobcmmafncmaaDoorMbd
import Derived.Test.YtoeobcmmafncmaaDoorZTkN
namespace Go.Proofs.YtoeobcmmafncmaaDoor
open Go.ChangeShapes Go.WideShapes Go.ChangeAt Go.RowKit Go.Deep

theorem tk_law (A0 A1 A2 A3 A4 : Option Addr) (c0 c1 c2 c3 c4 : Nat) (nums tog : List Nat) (more : List (List Int)) (words rs : List Wd) (h : Hd) (f : Int) (W : World) (hG : ShaG W)
    (h0 : Rd W W.heap.size 1 A0 nums.length (u32s nums)) (hnum : ∀ x ∈ nums, x < 4294967296) (h1 : MoreAt W W.heap.size A1 more) (h2 : Rd W W.heap.size 1 A2 tog.length (byts tog)) (htog : okB tog) (h3 : Rd W W.heap.size 3 A3 words.length (words.flatMap Wd.cl)) (h4 : Rd W W.heap.size 3 A4 rs.length (rs.flatMap Wd.cl)) (ho : h.ok) :
    Calls Tryd.prog 3 #[.slice A0 nums.length c0, .slice A1 more.length c1, .slice A2 tog.length c2, .slice A3 words.length c3, .slice A4 rs.length c4, .agg h.cl.toArray, .int .i64 f] W (Ret (.bool true) W) := by
  by_cases hg : (1 ≤ nums.length ∧ nums.length ≤ 3) ∧ more.length = nums.length ∧ tog.length ≤ 24 ∧ words.length ≤ 3 ∧ words.length ≤ rs.length ∧ 0 ≤ f ∧ f < 2097152
  · obtain ⟨⟨g0, g1⟩, g2, g3, g4, g5, g6, g7⟩ := hg
    exact tk_in A0 A1 A2 A3 A4 c0 c1 c2 c3 c4 nums tog more words rs h f W hG h0 hnum h1 h2 htog h3 h4 ho g0 g1 g2 g3 g4 g5 g6 g7
  · exact tk_out A0 A1 A2 A3 A4 _ _ _ _ _ c0 c1 c2 c3 c4 _ f W hg
theorem c_iss : Tryd.prog.cellsOf 38 = 1 := by kernel_rfl
theorem wf_u32 {z : Int} (h : (Lit.int .u32 z).wf = true) : 0 ≤ z ∧ z ≤ 4294967295 := by
  unfold Lit.wf at h
  simp only [Bool.and_eq_true, decide_eq_true_eq] at h
  exact h
theorem u32s_flat (l : List Nat) : l.flatMap (fun z : Nat => [Value.int .u32 (z : Nat)]) = u32s l := by
  unfold u32s
  induction l with
  | nil => rfl
  | cons x l ih => rw [List.flatMap_cons, ih]; rfl
theorem byts_flat (l : List Nat) : l.flatMap (fun z : Nat => [Value.int .u8 (z : Nat)]) = byts l := by
  unfold byts
  induction l with
  | nil => rfl
  | cons x l ih => rw [List.flatMap_cons, ih]; rfl
theorem vals_flat {α : Type} (l : List (α × Value)) : l.flatMap (fun z => [z.2]) = l.map (·.2) := by
  induction l with
  | nil => rfl
  | cons x l ih => rw [List.flatMap_cons, ih]; rfl
section
variable {H : Type} {enc : TypeId × Value → H} {w : World} {base : Nat} {spare : Nat → Bool} {held : Bool} {n : Nat} {cs : List Value} {y : DataW H × List MemPlace}
theorem in_u32s (h : DataW.trod enc Tryd.prog w base spare held n 22 cs = some y) (hw : Light Tryd.prog 22 y.1) : ∃ A c, ∃ l : List Nat, cs = [.slice A l.length c] ∧ Rd w w.heap.size 1 A l.length (u32s l) ∧ ∀ x ∈ l, x < 4294967296 := by
  obtain ⟨A, c, l, rfl, -, -, -, h4, h5⟩ := open_slice_w (f := fun z : Nat => [Value.int .u32 (z : Nat)]) (Pr := fun z => z < 4294967296) Tryd.underlying22 cells_u32 (by omega) (fun n cs y h _ => by
    obtain ⟨z, e, _, hz⟩ := DataW.trod_int Tryd.underlying78 h
    have hz' := wf_u32 hz
    exact ⟨z.toNat, by rw [e, show ((z.toNat : Nat) : Int) = z by omega], rfl, by omega⟩) h hw
  rw [u32s_flat] at h4
  exact ⟨A, c, l, rfl, h4, fun x hx => (h5 x hx).2⟩
theorem in_byts (h : DataW.trod enc Tryd.prog w base spare held n 24 cs = some y) (hw : Light Tryd.prog 24 y.1) : ∃ A c, ∃ l : List Nat, cs = [.slice A l.length c] ∧ Rd w w.heap.size 1 A l.length (byts l) ∧ okB l := by
  obtain ⟨A, c, l, rfl, -, -, -, h4, h5⟩ := open_slice_w (f := fun z : Nat => [Value.int .u8 (z : Nat)]) (Pr := fun z => z < 256) Tryd.underlying24 c_u8 (by omega) (fun n cs y h _ => by
    obtain ⟨z, e, _, hz⟩ := DataW.trod_int Tryd.underlying5 h
    have hz' := wf_u8 hz
    exact ⟨z.toNat, by rw [e, show ((z.toNat : Nat) : Int) = z by omega], rfl, by omega⟩) h hw
  rw [byts_flat] at h4
  exact ⟨A, c, l, rfl, h4, fun x hx => (h5 x hx).2⟩
theorem in_is (h : DataW.trod enc Tryd.prog w base spare held n 38 cs = some y) (hw : Light Tryd.prog 38 y.1) : ∃ A c, ∃ l : List Int, cs = [.slice A l.length c] ∧ Rd w w.heap.size 1 A l.length (ints l) := by
  obtain ⟨A, c, l, rfl, -, -, -, h4, -⟩ := open_slice_w (f := fun z : Int => [Value.int .i64 z]) (Pr := fun _ => True) Tryd.underlying38 c_int (by omega) (fun n cs y h _ => by obtain ⟨z, e, _⟩ := in_int h; exact ⟨z, e, rfl, trivial⟩) h hw
  rw [ints_flat] at h4
  exact ⟨A, c, l, rfl, h4⟩
theorem in_more (h : DataW.trod enc Tryd.prog w base spare held n 23 cs = some y) (hw : Light Tryd.prog 23 y.1) : ∃ A c, ∃ l : List (List Int), cs = [.slice A l.length c] ∧ MoreAt w w.heap.size A l := by
  obtain ⟨A, c, l, rfl, -, -, -, h4, h5⟩ := open_slice_w (f := fun z : List Int × Value => [z.2]) (Pr := fun z => ∃ A c, z.2 = .slice A z.1.length c ∧ Rd w w.heap.size 1 A z.1.length (ints z.1)) Tryd.underlying23 c_iss (by omega) (fun n cs y h hw => by
    obtain ⟨A, c, l, rfl, hr⟩ := in_is h hw
    exact ⟨(l, .slice A l.length c), rfl, rfl, A, c, rfl, hr⟩) h hw
  refine ⟨A, c, l.map (·.1), by rw [List.length_map], l.map (·.2), by rw [List.length_map, ← vals_flat]; exact h4, fun i x hx => ?_⟩
  rw [List.getElem?_map] at hx
  obtain ⟨z, hz, rfl⟩ := Option.map_eq_some_iff.1 hx
  obtain ⟨_, Ai, ci, e, hr⟩ := h5 z (List.mem_of_getElem? hz)
  exact ⟨Ai, ci, by rw [List.getElem?_map, hz, ← e]; rfl, hr⟩
theorem in_wds {t e : TypeId} (ht : Tryd.prog.underlying t = some (.slice e)) (he : Tryd.prog.underlying e = some (.array 3 3)) (hc : Tryd.prog.cellsOf e = 3) (h : DataW.trod enc Tryd.prog w base spare held n t cs = some y) (hw : Light Tryd.prog t y.1) : ∃ A c, ∃ l : List Wd, cs = [.slice A l.length c] ∧ Rd w w.heap.size 3 A l.length (l.flatMap Wd.cl) := by
  obtain ⟨A, c, l, rfl, -, -, -, h4, -⟩ := open_slice_w (f := Wd.cl) (Pr := fun _ => True) ht hc (by omega) (fun n cs y h hw => by
    obtain ⟨a, b, c, rfl, -⟩ := in_ints he hc h hw
    exact ⟨⟨a, b, c⟩, rfl, rfl, trivial⟩) h hw
  exact ⟨A, c, l, rfl, h4⟩
end
theorem trodAll_seven {H : Type} {enc : TypeId × Value → H} {P : Program} {w : World} {base : Nat} {spare : Nat → Bool} {held : Bool} {t0 t1 t2 t3 t4 t5 t6 : TypeId} {args : Array Value} {ds : List (DataW H)} {ps : List MemPlace}
    (h : DataW.TrodAll enc P w base spare held [t0, t1, t2, t3, t4, t5, t6] args.toList ds ps) :
    ∃ v0 v1 v2 v3 v4 v5 v6 d0 d1 d2 d3 d4 d5 d6 p0 p1 p2 p3 p4 p5 p6, args = #[v0, v1, v2, v3, v4, v5, v6] ∧ ds = [d0, d1, d2, d3, d4, d5, d6] ∧ DataW.Trod enc P w base spare held t0 v0 d0 p0 ∧ DataW.Trod enc P w base spare held t1 v1 d1 p1 ∧ DataW.Trod enc P w base spare held t2 v2 d2 p2 ∧ DataW.Trod enc P w base spare held t3 v3 d3 p3 ∧ DataW.Trod enc P w base spare held t4 v4 d4 p4 ∧ DataW.Trod enc P w base spare held t5 v5 d5 p5 ∧ DataW.Trod enc P w base spare held t6 v6 d6 p6 := by
  obtain ⟨v0, vs0, d0, ds0, p0, q0, hargs, rfl, rfl, hd0, r0⟩ := trodAll_cons h
  obtain ⟨v1, vs1, d1, ds1, p1, q1, rfl, rfl, rfl, hd1, r1⟩ := trodAll_cons r0
  obtain ⟨v2, vs2, d2, ds2, p2, q2, rfl, rfl, rfl, hd2, r2⟩ := trodAll_cons r1
  obtain ⟨v3, vs3, d3, ds3, p3, q3, rfl, rfl, rfl, hd3, r3⟩ := trodAll_cons r2
  obtain ⟨v4, vs4, d4, ds4, p4, q4, rfl, rfl, rfl, hd4, r4⟩ := trodAll_cons r3
  obtain ⟨v5, vs5, d5, ds5, p5, q5, rfl, rfl, rfl, hd5, r5⟩ := trodAll_cons r4
  obtain ⟨v6, vs6, d6, ds6, p6, q6, rfl, rfl, rfl, hd6, r6⟩ := trodAll_cons r5
  obtain ⟨rfl, rfl, rfl⟩ := trodAll_nil r6
  exact ⟨v0, v1, v2, v3, v4, v5, v6, d0, d1, d2, d3, d4, d5, d6, p0, p1, p2, p3, p4, p5, p6, by cases args; simp_all, rfl, hd0, hd1, hd2, hd3, hd4, hd5, hd6⟩

set_option maxRecDepth 100000 in
set_option maxHeartbeats 16000000 in
theorem top_lifted (os : Os) (started : os.Started) (H : Type) (enc : TypeId × Value → H) :
    ReturnsInHanded {} Tryd.checked os 3 .any (fun w args => (Rows.topKeysSpec.pre enc Tryd.prog Tryd.f3 [] false w args ∧ laidMetH Tryd.prog shaLaid w) ∧ sizedMet enc Tryd.prog Tryd.f3 (OpenSpec.ofChange Rows.topKeysSpec) false w args)
      (Rows.topKeysSpec.post enc Tryd.prog Tryd.f3 false true false false) := by
  refine returnsInHanded_of_change_and (C := Tryd.checked) (X := fun w _ => laidMetH Tryd.prog shaLaid w) (fun _ _ _ hh h => h.of_heap hh) own_knob started (by kernel_rfl) Tryd.func3
    (ChangeSpec.witness_at (enc := enc) (C := Tryd.checked) (os := os) (X := fun w _ => laidMetH Tryd.prog shaLaid w) false (laidWorld os) #[.slice none 0 0, .slice none 0 0, .slice none 0 0, .slice none 0 0, .slice none 0 0, .agg zeroH.cl.toArray, .int .i64 0] 12 rfl (by kernel_rfl) (by kernel_rfl) (by kernel_rfl) (by kernel_rfl) (by kernel_rfl)
      (show laidMet Tryd.prog shaLaid _ from laidMet_of_run (ps := MemPlace.row ⟨0, 0, none⟩ 8 ++ [] ++ (MemPlace.row ⟨1, 0, none⟩ 64 ++ [] ++ [])) 12 (by kernel_rfl) (by kernel_rfl) (by kernel_rfl))) ?_
  intro W base args ds gs before hval0 hW _ hwt hL _
  have hW' := hW
  obtain ⟨p, q, hA0, hV, rfl, hfz, hnd⟩ := hW
  have hA : DataW.TrodAll enc Tryd.prog W 0 (fun _ => true) true Tryd.f3.params.toList args.toList ds p := hA0
  have hval : ∀ (j : Nat) t v, Tryd.f3.params[j]? = some t → args[j]? = some v → Value.okWide Tryd.prog W .any base t v := hval0
  rw [Tryd.params3] at hA hwt hval
  obtain ⟨rfl, rfl⟩ := trodVars_none hV
  obtain ⟨v0, v1, v2, v3, v4, v5, v6, d0, d1, d2, d3, d4, d5, d6, p0, p1, p2, p3, p4, p5, p6, rfl, rfl, ⟨f0, hf0⟩, ⟨f1, hf1⟩, ⟨f2, hf2⟩, ⟨f3, hf3⟩, ⟨f4, hf4⟩, ⟨f5, hf5⟩, ⟨f6, hf6⟩⟩ := trodAll_seven hA
  have l0 : Light Tryd.prog 22 d0 := light_each hwt 0 _ _ rfl rfl
  have l1 : Light Tryd.prog 23 d1 := light_each hwt 1 _ _ rfl rfl
  have l2 : Light Tryd.prog 24 d2 := light_each hwt 2 _ _ rfl rfl
  have l3 : Light Tryd.prog 25 d3 := light_each hwt 3 _ _ rfl rfl
  have l4 : Light Tryd.prog 26 d4 := light_each hwt 4 _ _ rfl rfl
  have l5 : Light Tryd.prog 34 d5 := light_each hwt 5 _ _ rfl rfl
  obtain ⟨B0, n0, k0, rfl⟩ := okWide_slice Tryd.underlying22 (hval 0 22 v0 rfl rfl)
  obtain ⟨B1, n1, k1, rfl⟩ := okWide_slice Tryd.underlying23 (hval 1 23 v1 rfl rfl)
  obtain ⟨B2, n2, k2, rfl⟩ := okWide_slice Tryd.underlying24 (hval 2 24 v2 rfl rfl)
  obtain ⟨B3, n3, k3, rfl⟩ := okWide_slice Tryd.underlying25 (hval 3 25 v3 rfl rfl)
  obtain ⟨B4, n4, k4, rfl⟩ := okWide_slice Tryd.underlying26 (hval 4 26 v4 rfl rfl)
  obtain ⟨A0, c0, nums, e0, r0, hnum⟩ := in_u32s hf0 l0
  obtain ⟨A1, c1, more, e1, r1⟩ := in_more hf1 l1
  obtain ⟨A2, c2, tog, e2, r2, htog⟩ := in_byts hf2 l2
  obtain ⟨A3, c3, words, e3, r3⟩ := in_wds Tryd.underlying25 Tryd.underlying50 c_words hf3 l3
  obtain ⟨A4, c4, rs, e4, r4⟩ := in_wds Tryd.underlying26 Tryd.underlying49 c_three hf4 l4
  obtain ⟨h, e5, ho⟩ := in_hd hf5 l5
  obtain ⟨f, e6, -⟩ := in_int hf6
  simp [Value.cells] at e0 e1 e2 e3 e4
  obtain ⟨rfl, rfl, rfl⟩ := e0
  obtain ⟨rfl, rfl, rfl⟩ := e1
  obtain ⟨rfl, rfl, rfl⟩ := e2
  obtain ⟨rfl, rfl, rfl⟩ := e3
  obtain ⟨rfl, rfl, rfl⟩ := e4
  obtain ⟨cs5, rfl, e7⟩ := agg_of_cells (v := v5) (by
    have hl := Hd.cl_length ho
    rw [← e5] at hl
    have : v5.cells.size = 42 := by simpa using hl
    omega)
  have e8 : cs5 = h.cl.toArray := by
    rw [e7] at e5
    rw [← e5]
  subst e8
  obtain ⟨z, rfl, _⟩ := okWide_int Tryd.underlying3 (hval 6 3 v6 rfl rfl)
  have e9 : z = f := by simpa [Value.cells] using e6
  subst e9
  refine (tk_law _ _ _ _ _ _ _ _ _ _ nums tog more words rs h z W (sha_of_laid hL) r0 hnum r1 r2 htog r3 r4 ho).mono fun e W' ⟨he, bel⟩ => ?_
  subst he
  exact ⟨_, rfl, _, _, _, [], _, [], hW', trodAll_mk1 (shut_bool Tryd.underlying4 _), trodAll_stays bel (by
    rw [Tryd.params3]
    exact of_decide_eq_true (by kernel_rfl)) hA0, rfl, bel.frame _, fun h => by cases h⟩

theorem top_row : Rows.TopKeysSaid :=
  OpenClaim.holds_of_wide 3 Tryd.f3 rfl rfl rfl rfl rfl rfl rfl ⟨rfl, rfl, rfl, rfl, rfl⟩ rfl rfl rfl rfl rfl (by kernel_rfl) Tryd.func3 (by kernel_rfl)
    (of_decide_eq_true (by kernel_rfl)) (by unfold Func.isWrapper; first | (rw [if_pos (by decide +kernel)]; kernel_rfl) | (rw [if_neg (by decide +kernel)]; exact ⟨rfl, rfl⟩))
    (fun os started H enc _ => top_lifted os started H enc)

theorem topKeys_holds : Rows.TopKeysCardSaid :=
  Claim7.holds_tied_plain_at .later [] _ _ _ _
    top_row (fun _ h => by cases h) (by kernel_rfl) (fun _ h => by cases h) topKeys_row_tie rfl ⟨rfl, rfl⟩ (by kernel_rfl) rfl
    (fun f fn hf hfn => by
      obtain rfl : f = 3 := Option.some.inj ((show Tryd.prog.funcNamed "franking/frankingtop.TopKeys" = some 3 by kernel_rfl).symm.trans hf) |>.symm
      obtain rfl : fn = Tryd.f3 := (Option.some.inj (Tryd.func3.symm.trans hfn)).symm
      exact ⟨by kernel_rfl, fun j t ht => by
        rw [Tryd.params3] at ht
        have hall : (List.all [22, 23, 24, 25, 26, 34, 3] fun t => !Tryd.prog.wantsStandIn t) = true := by kernel_rfl
        have := List.all_eq_true.1 hall t (List.mem_of_getElem? (by simpa using ht))
        show Tryd.prog.wantsStandIn t = false
        simpa using this⟩)
    (by kernel_rfl)
#print axioms topKeys_holds
end Go.Proofs.YtoeobcmmafncmaaDoor
