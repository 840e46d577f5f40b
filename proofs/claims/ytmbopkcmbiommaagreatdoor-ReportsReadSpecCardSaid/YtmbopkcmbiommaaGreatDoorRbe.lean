/- The printer's strings.Builder: its methods, walked over the printer's own block. -/
import Derived.Test.YtmbopkcmbiommaaGreatDoorRbd
import Derived.Lib.FrozenHead2
import Derived.Lib.OthersKept
import Derived.Lib.Builder
import Derived.Lib.UnsafeStr
import Derived.Test.YtmbopkcmbiommaaGreatDoorRak
set_option maxRecDepth 1000000
set_option maxHeartbeats 16000000
namespace Go.Proofs.YtmbopkcmbiommaaGreatDoor
open Go Go.RowKit
def PAt (w : World) (b : Nat) (l : By) : Prop := Lib.IsBuilderF 77 5 b b (Lib.byteCells l) w
structure PKeep (b : Nat) (w w' : World) : Prop where
  bl : Below b w w'
  ot : Lib.OthersKept 5 (some b) w w'
theorem PKeep.refl (b : Nat) (w : World) : PKeep b w w := ⟨Below.refl _ _, Lib.OthersKept.refl _ _ _⟩
theorem PKeep.trans {b : Nat} {w w1 w2 : World} (h : PKeep b w w1) (k : PKeep b w1 w2) : PKeep b w w2 := ⟨h.bl.trans k.bl, h.ot.trans k.ot⟩
theorem PKeep.of {b B : Nat} {w w' : World} (h : Below B w w') (hb : b ≤ B) (hs : B = w.heap.size) : PKeep b w w' := by
  subst hs
  exact ⟨h.mono hb, fun k o hk _ _ => (h.block k (Array.getElem?_eq_some_iff.1 hk).1).trans hk⟩
theorem PKeep.blk {b g : Nat} {w w' : World} {t : TypeId} {cs : Array Value} (k : PKeep b w w') (h : Blk w g t cs) (hg : g ≠ b) (ht : t ≠ 5) : Blk w' g t cs :=
  k.ot g _ h (fun e => hg (by injection e)) (fun c fz e => ht (by injection e))
theorem PAt.of_below {b : Nat} {w w' : World} {l : By} (h : PAt w b l) (hb : Below w.heap.size w w') : PAt w' b l := by
  have kk : ∀ p, Lib.BuilderAtF 77 5 b b p (Lib.byteCells l) w → Lib.BuilderAtF 77 5 b b p (Lib.byteCells l) w' := by
    rintro p ⟨h1, v, hbk, hown, hne⟩
    refine ⟨h1, v, (hb.block b (Array.getElem?_eq_some_iff.1 hbk).1).trans hbk, ?_, hne⟩
    refine ⟨hown.1, ?_⟩
    rcases hown.2 with h2 | ⟨g, cap, cur, fz, hv, hg, hh, r⟩
    · exact .inl h2
    · exact .inr ⟨g, cap, cur, fz, hv, hg, (hb.block g (Array.getElem?_eq_some_iff.1 hh).1).trans hh, r⟩
  exact h.imp (kk _) (kk _)
theorem pr_size : (Tryz.prog.info? 75).map (·.size) = some 2 := by kernel_rfl
theorem pr_lies : liesAt Tryz.prog Tryz.prog.depth 77 (2 / Tryz.prog.cellsOf 77) 0 75 1 = true := by kernel_rfl
theorem u8_info : (Tryz.prog.info? 5).map (fun i => (i.zero, i.size, i.bytes)) = some (some (.int .u8 0), 1, 1) := by kernel_rfl
theorem u8_cells : Tryz.prog.cellsOf 5 = 1 := by kernel_rfl
theorem pr_check_used (b : Nat) (w : World) (h0 : w.cell? ⟨b, 0, none⟩ = some (.pointer (some ⟨b, 0, none⟩))) :
    Calls Tryz.prog 77 #[.pointer (some ⟨b, 0, none⟩)] w fun e w' => e = .returned (.tuple #[]) ∧ w' = w := by
  obtain ⟨j, hj, _⟩ := Option.map_eq_some_iff.1 pr_size
  go_enter Tryz.func77, Tryz.ntmps77
  go_wp2_with fail
  rw [Lib.run_neq_ptr_same w _ Tryz.underlying72 hj]
  go_wp2_with fail
  go_end0
  exact ⟨rfl, rfl⟩
theorem pr_check_fresh (b : Nat) (w : World) (h0 : w.cell? ⟨b, 0, none⟩ = some (.pointer none)) (hsh : w.shape? b = some (77, 2)) (hfz : w.frozen? ⟨b, 0, none⟩ = false) :
    Calls Tryz.prog 77 #[.pointer (some ⟨b, 0, none⟩)] w fun e w' => e = .returned (.tuple #[]) ∧ w' = w.setCell ⟨b, 0, none⟩ (.pointer (some ⟨b, 0, none⟩)) := by
  obtain ⟨j, hj, hjs⟩ := Option.map_eq_some_iff.1 pr_size
  go_enter Tryz.func77, Tryz.ntmps77
  go_wp2_with fail
  rw [Lib.run_to_unsafe w ⟨b, 0, none⟩ Tryz.underlying72 Tryz.underlying183 hj (by rw [hjs]; decide) hsh (Nat.zero_lt_succ 1)]
  simp only [Result.andThen]
  rw [Oper.upon_value]
  go_wp2_with fail
  rw [run_callFunc_extern Tryz.func124 (by kernel_rfl) (by kernel_rfl) (by kernel_rfl) (e := Extern.AbiNoEscape.same) (by kernel_rfl)]
  rw [Lib.run_noEscape]
  simp only [Result.andThen]
  rw [Oper.upon_value]
  go_wp2_with fail
  rw [Lib.run_from_unsafe w ⟨b, 0, none⟩ Tryz.underlying183 Tryz.underlying72 hj hsh pr_lies]
  simp only [Result.andThen]
  rw [Oper.upon_value]
  go_wp2_with fail
  go_end0
  exact ⟨rfl, rfl⟩
theorem pr_check (b : Nat) (l : By) (w : World) (h : PAt w b l) :
    Calls Tryz.prog 77 #[.pointer (some ⟨b, 0, none⟩)] w fun e w' => e = .returned (.tuple #[]) ∧ Lib.BuilderAtF 77 5 b b (.pointer (some ⟨b, 0, none⟩)) (Lib.byteCells l) w' ∧ PKeep b w w' := by
  rcases h with h | h
  · refine (pr_check_fresh b w h.cell0 h.shape h.frozen0).mono ?_
    rintro e w' ⟨rfl, rfl⟩
    exact ⟨rfl, h.used _, (Below.refl b w).setCell (p := ⟨b, 0, none⟩) (Nat.le_refl b) _, (Lib.OthersKept.refl _ _ w).setCell ⟨b, 0, none⟩ rfl _⟩
  · refine (pr_check_used b w h.cell0).mono ?_
    rintro e w' ⟨rfl, rfl⟩
    exact ⟨rfl, h, PKeep.refl b _⟩
theorem pr_str (b : Nat) (l : By) (s : ByteArray) (w : World) (h : PAt w b l) (hlen : l.length + s.size ≤ 140737488355328) :
    Calls Tryz.prog 41 #[.pointer (some ⟨b, 0, none⟩), .string s] w fun e w' => (∃ v, e = .returned v) ∧ PAt w' b (l ++ s.data.toList) ∧ PKeep b w w' := by
  obtain ⟨i0, hi, hz0, hz1, hz2⟩ := info_parts u8_info
  go_enter Tryz.func41, Tryz.ntmps41
  go_wp2_with fail
  refine (pr_check b l _ h).mono ?_
  rintro e w1 ⟨rfl, h1, hk1⟩
  obtain ⟨hB, v, hbk, hown, hne⟩ := h1
  have c0 : w1.cell? ⟨b, 0, none⟩ = some (.pointer (some ⟨b, 0, none⟩)) := by rw [Lib.cell_of_heap hbk]; rfl
  have c1 : w1.cell? ⟨b, 1, none⟩ = some v := by rw [Lib.cell_of_heap hbk]; rfl
  have hlt : b < w1.heap.size := (Array.getElem?_eq_some_iff.1 hbk).1
  rw [Lib.byteCells_length] at hown
  go_wp2_with (at_builtin; refine Lib.wpList_append_own_stringF _ rfl _ _ 73 9 rfl b 5 i0 Tryz.underlying73 Tryz.underlying9 hi hz0 hz1 hz2 _ _ _ rfl hown s rfl ?c3 ?c4 ?c5 ?_)
  case c3 => unfold maxLen; omega
  case c4 => omega
  case c5 => omega
  intro v' w2 hown' hgrow _
  have hb2 : w2.heap[b]? = some (.cells #[.pointer (some ⟨b, 0, none⟩), v] 77 (0, 0)) := by
    rw [hgrow.block b hlt (fun e => hne e.symm)]
    exact hbk
  have d0 : w2.cell? ⟨b, 0, none⟩ = some (.pointer (some ⟨b, 0, none⟩)) := by rw [Lib.cell_of_heap hb2]; rfl
  have d1 : w2.cell? ⟨b, 1, none⟩ = some v := by rw [Lib.cell_of_heap hb2]; rfl
  have f1 : w2.frozen? ⟨b, 1, none⟩ = false := Lib.frozen_of_heap hb2 1
  obtain ⟨ao, n', cap, rfl⟩ : ∃ ao n' cap, v' = .slice ao n' cap := by
    rcases hown'.2 with ⟨hv, _⟩ | ⟨g, cap, cur, fz, hv, _⟩
    · exact ⟨_, _, _, hv⟩
    · exact ⟨_, _, _, hv⟩
  have hfin : Hid (PAt (w2.setCell ⟨b, 1, none⟩ (.slice ao n' cap)) b (l ++ s.data.toList) ∧ PKeep b w (w2.setCell ⟨b, 1, none⟩ (.slice ao n' cap))) := Lib.hid (by
    refine ⟨.inr ?_, ⟨(hk1.bl.grown hgrow (by omega) (fun k hk => (hown.lt k hk).1)).setCell (p := ⟨b, 1, none⟩) hB _, (hk1.ot.grown hgrow (Lib.ownsRowF_kind hown)).setCell ⟨b, 1, none⟩ rfl _⟩⟩
    have e : Lib.byteCells (l ++ s.data.toList) = Lib.byteCells l ++ Lib.strCells s := by unfold Lib.byteCells Lib.strCells; rw [List.map_append]
    rw [e]
    exact Lib.BuilderAtF.put hB hb2 (bs' := Lib.byteCells l ++ Lib.strCells s) (by rw [List.length_append, Lib.byteCells_length, Lib.strCells_length]; exact hown') (by decide))
  clear hown hown' hgrow hbk hk1
  go_wp2_with fail
  go_ret2
  exact ⟨⟨_, rfl⟩, hfin.out⟩
theorem pr_byte (b : Nat) (l : By) (c : UInt8) (w : World) (h : PAt w b l) (hlen : l.length + 1 ≤ 140737488355328) :
    Calls Tryz.prog 80 #[.pointer (some ⟨b, 0, none⟩), .int .u8 c.toNat] w fun e w' => (∃ v, e = .returned v) ∧ PAt w' b (l ++ [c]) ∧ PKeep b w w' := by
  obtain ⟨i0, hi, hz0, hz1, hz2⟩ := info_parts u8_info
  obtain ⟨cn, hcn⟩ : ∃ cn : Int, Hid (cn = (c.toNat : Int)) := ⟨_, Lib.hid rfl⟩
  rw [← hcn.out]
  go_enter Tryz.func80, Tryz.ntmps80
  go_wp2_with fail
  refine (pr_check b l _ h).mono ?_
  rintro e w1 ⟨rfl, h1, hk1⟩
  obtain ⟨hB, v, hbk, hown, hne⟩ := h1
  have c0 : w1.cell? ⟨b, 0, none⟩ = some (.pointer (some ⟨b, 0, none⟩)) := by rw [Lib.cell_of_heap hbk]; rfl
  have c1 : w1.cell? ⟨b, 1, none⟩ = some v := by rw [Lib.cell_of_heap hbk]; rfl
  have hlt : b < w1.heap.size := (Array.getElem?_eq_some_iff.1 hbk).1
  rw [Lib.byteCells_length] at hown
  go_wp2_with (at_builtin; refine wpList_append_ownF _ rfl _ _ 73 rfl b 5 i0 (.int .u8 0) 1 1 Tryz.underlying73 hi hz0 hz1 hz2 rfl (by decide) _ _ _ rfl (hown.alloc _) ⟨w1.heap.size, 0, none⟩ 1 1 [.int .u8 cn] rfl rfl ?d1 ?d2 ?d3 ?d4 ?d5 ?_)
  case d1 =>
    intro j u hj
    match j, hj with
    | 0, hj => simp at hj; subst hj; simp [Addr.add]
  case d2 => intro u hu; simp at hu; subst hu; rfl
  case d3 => unfold maxLen; omega
  case d4 => omega
  case d5 => simp; omega
  intro v' w2 hown' hgrow _
  have hb2 : w2.heap[b]? = some (.cells #[.pointer (some ⟨b, 0, none⟩), v] 77 (0, 0)) := by
    rw [hgrow.block b (by simp; omega) (fun e => hne e.symm), Lib.alloc_old w1 _ b hlt]
    exact hbk
  have d0 : w2.cell? ⟨b, 0, none⟩ = some (.pointer (some ⟨b, 0, none⟩)) := by rw [Lib.cell_of_heap hb2]; rfl
  have d1 : w2.cell? ⟨b, 1, none⟩ = some v := by rw [Lib.cell_of_heap hb2]; rfl
  have f1 : w2.frozen? ⟨b, 1, none⟩ = false := Lib.frozen_of_heap hb2 1
  obtain ⟨ao, n', cap, rfl⟩ : ∃ ao n' cap, v' = .slice ao n' cap := by
    rcases hown'.2 with ⟨hv, _⟩ | ⟨g, cap, cur, fz, hv, _⟩
    · exact ⟨_, _, _, hv⟩
    · exact ⟨_, _, _, hv⟩
  have hfin : Hid (PAt (w2.setCell ⟨b, 1, none⟩ (.slice ao n' cap)) b (l ++ [c]) ∧ PKeep b w (w2.setCell ⟨b, 1, none⟩ (.slice ao n' cap))) := Lib.hid (by
    refine ⟨.inr ?_, ⟨((hk1.bl.alloc (by omega) _).grown hgrow (by simp; omega) (fun k hk => (hown.lt k hk).1)).setCell (p := ⟨b, 1, none⟩) hB _, ((hk1.ot.alloc _).grown hgrow (Lib.ownsRowF_kind (hown.alloc _))).setCell ⟨b, 1, none⟩ rfl _⟩⟩
    have e : Lib.byteCells (l ++ [c]) = Lib.byteCells l ++ [.int .u8 cn] := by unfold Lib.byteCells; rw [List.map_append, hcn.out]; rfl
    rw [e]
    exact Lib.BuilderAtF.put hB hb2 (bs' := Lib.byteCells l ++ [.int .u8 cn]) (by rw [List.length_append, Lib.byteCells_length]; exact hown') (by decide))
  clear hown hown' hgrow hbk hk1
  go_wp2_with fail
  go_ret
  exact ⟨⟨_, rfl⟩, hfin.out⟩
theorem pr_string (b : Nat) (l : By) (w : World) (h : PAt w b l) (h0 : l ≠ []) :
    Calls Tryz.prog 20 #[.pointer (some ⟨b, 0, none⟩)] w fun e w' => e = .returned (.string ⟨l.toArray⟩) ∧ Below b w w' := by
  obtain ⟨p, hAt⟩ : ∃ p, Lib.BuilderAtF 77 5 b b p (Lib.byteCells l) w := by
    rcases h with h | h
    · exact ⟨_, h⟩
    · exact ⟨_, h⟩
  obtain ⟨hB, v, hbk, hown, hne⟩ := hAt
  have hl0 : l.length ≠ 0 := by simpa using h0
  rw [Lib.byteCells_length] at hown
  obtain ⟨g, cap, cur, fz, rfl, hbg, hg, hfz, hnc, hcm, hcs, htake⟩ : ∃ g cap cur fz, v = .slice (some ⟨g, 0, none⟩) l.length cap ∧ b ≤ g ∧ w.heap[g]? = some (.cells cur 5 fz) ∧ fz.2 ≤ l.length * 1 ∧ l.length ≤ cap ∧ cap ≤ maxLen ∧ cur.size = cap * 1 ∧ cur.toList.take (l.length * 1) = Lib.byteCells l := by
    rcases hown.2 with ⟨_, hz⟩ | ⟨g, cap, cur, fz, hv, r⟩
    · exact absurd hz hl0
    · exact ⟨g, cap, cur, fz, hv, r⟩
  have c1 : w.drew.cell? ⟨b, 1, none⟩ = some (.slice (some ⟨g, 0, none⟩) l.length cap) := by
    have : w.drew.heap[b]? = some (.cells #[p, .slice (some ⟨g, 0, none⟩) l.length cap] 77 (0, 0)) := hbk
    rw [Lib.cell_of_heap this]; rfl
  have hSD : (Builtin.unsafeSliceData_ #[73] 118 #[.slice (some ⟨g, 0, none⟩) l.length cap]).run Tryz.prog w.drew = .ok (.pointer (some ⟨g, 0, none⟩)) w.drew :=
    Lib.run_unsafeSliceData_row _ _ _ _ _ _ (by omega)
  have hUS : (Builtin.unsafeString_ #[118, 3] 9 #[.pointer (some ⟨g, 0, none⟩), .int .i64 l.length]).run Tryz.prog w.drew = .ok (.string ⟨l.toArray⟩) (w.drew.freeze ⟨g, 0, none⟩ l.length) := by
    refine Lib.run_unsafeString_row w.drew 118 3 9 5 Tryz.underlying118 u8_cells g cur.size (by have hg' : w.drew.heap[g]? = some (.cells cur 5 fz) := hg; simp [World.shape?, hg']) l h0 (by omega) (by unfold maxLen at hcm; omega) ?_
    intro j x hx
    exact hown.cells (g := g) rfl j (.int .u8 x.toNat) (by simp [Lib.byteCells, hx])
  have hfin : Hid (Below b w (w.drew.freeze ⟨g, 0, none⟩ l.length)) := Lib.hid (Lib.below_freeze (Below.drew (Below.refl b w)) (p := ⟨g, 0, none⟩) hbg _)
  have hgb : g ≠ b := fun e => hne (by rw [e]; rfl)
  clear hown htake hne hcs hfz hbk
  go_enter Tryz.func20, Tryz.ntmps20
  go_wp2_with fail
  have KS : Hid (∀ w', Below w.heap.size w w' → w'.cell? ⟨b, 1, none⟩ = some (.slice (some ⟨g, 0, none⟩) l.length cap)) := Lib.hid (fun w' hb => by
    have hlt : b < w.heap.size := World.block_lt_of_cell? _ _ c1
    have := hb.block b hlt
    have h2 := c1
    unfold World.cell? at h2 ⊢
    rw [this]
    exact h2)
  have hF : (w.drew.freeze ⟨g, 0, none⟩ l.length).cell? ⟨b, 1, none⟩ = some (.slice (some ⟨g, 0, none⟩) l.length cap) := by
    have h2 := c1
    have e : (w.drew.freeze ⟨g, 0, none⟩ l.length).heap[b]? = w.drew.heap[b]? := by
      unfold World.freeze
      split
      · rfl
      · show (Array.modify _ _ _)[b]? = _
        rw [Array.getElem?_modify, if_neg hgb]
    unfold World.cell? at h2 ⊢
    rw [e]
    exact h2
  refine wp_region_schN (g := 2) KS [(0, 1), (1, 1), (2, 1), (5, 1), (6, 1), (7, 1), (3, 2), (8, 2), (9, 1), (4, 0)] ?_
  simp only [pickS, List.getElem?_cons_zero, List.getElem?_cons_succ]
  refine wpSchedN_t ?_
  refine wpSchedN_t ?_
  refine wpSchedN_t ?_
  refine wpSchedN_t ?_
  refine wpSchedN_t ?_
  refine wpSchedN_t ?_
  refine wpSchedN_r ?_
  refine wpSchedN_r ?_
  refine wpSchedN_t ?_
  refine wpSchedN_force (fun K hK => ?_)
  go_simp
  refine shut_go hK KS ?_
  clear hK K
  refine anyN_one (i := 10) ⟨_, rfl, fun K hK => ?_⟩
  go_simp
  refine hK.out _ _ hF (fun _ => ?_)
  clear hK K
  refine anyN_one (i := 11) ⟨_, rfl, fun K hK => ?_⟩
  go_simp
  refine hK.out _ _ hF (fun _ => ?_)
  clear hK K
  refine anyN_end ?_
  refine NoPanic.normal ?_
  go_wp2_with fail
  go_ret
  exact ⟨rfl, hfin.out⟩
def PPost (ok : Bool) (b : Nat) (l : By) (w : World) (r : Ending) (w' : World) : Prop := (if ok = true then r = .returned (.tuple #[]) ∧ PAt w' b l else r = PanW) ∧ PKeep b w w'
theorem PPost.no {ok : Bool} {b : Nat} {l : By} {w w' : World} (h : ok = false) (k : PKeep b w w') : PPost ok b l w PanW w' := by subst h; exact ⟨rfl, k⟩
theorem PPost.yes {ok : Bool} {b : Nat} {l : By} {w w' : World} (h : ok = true) (hp : PAt w' b l) (k : PKeep b w w') : PPost ok b l w (.returned (.tuple #[])) w' := by subst h; exact ⟨⟨rfl, hp⟩, k⟩
theorem PAt.lt {w : World} {b : Nat} {l : By} (h : PAt w b l) : b < w.heap.size := by rcases h with h | h <;> exact h.lt
theorem okN_no1 {n : Int} (h : ¬ -1099511627776 ≤ n) : okN n = false := decide_eq_false (fun e => h e.1)
theorem okN_no2 {n : Int} (h : ¬ n ≤ 1099511627776) : okN n = false := decide_eq_false (fun e => h e.2)
theorem pr_number (b : Nat) (l : By) (n : Int) (w : World) (h : PAt w b l) (hl : l.length + (numT n).length ≤ 1000000000) (hG : LibG b w) :
    Calls Tryz.prog 79 #[.pointer (some ⟨b, 0, none⟩), .int .i64 n] w (PPost (okN n) b (l ++ numT n) w) := by
  by_cases h1 : -1099511627776 ≤ n
  · by_cases h2 : n ≤ 1099511627776
    · have hok : Hid (okN n = true) := Lib.hid (okN_iff.2 ⟨h1, h2⟩)
      have q1 : Hid (∀ w', Below w.heap.size w w' → Calls Tryz.prog 126 #[.int .i64 n] w' (Ret (.string ⟨(itB n).toArray⟩) w')) := Lib.hid (fun w' b' => itoa_any b n w' hok.out (hG.below (b'.mono (Nat.le_of_lt h.lt))))
      have hlt := h.lt
      have hsz : l.length + (⟨(numT n).toArray⟩ : ByteArray).size ≤ 140737488355328 := by
        show l.length + (numT n).toArray.size ≤ _
        rw [List.size_toArray]
        omega
      have hit : ¬ 9223372036854775807 < 1 + (itB n).length := by
        have e : (numT n).length = (itB n).length + 1 := rfl
        omega
      replace h := Lib.hid h
      go_enter Tryz.func79, Tryz.ntmps79
      go_wp2_with (go_at_call 55; (with_reducible refine (want_yes _).mono ?_); rintro e w3 ⟨rfl, rfl⟩)
      have KS : Hid (∀ w', Below w.heap.size w w' → True) := Lib.hid (fun _ _ => trivial)
      refine wp_region_schN (g := 1) KS [(0, 1), (1, 1), (2, 1), (3, 1), (4, 0), (5, 1)] ?_
      simp only [pickS, List.getElem?_cons_zero, List.getElem?_cons_succ]
      refine wpSchedN_t ?_
      refine wpSchedN_t ?_
      refine wpSchedN_t ?_
      refine wpSchedN_t ?_
      refine wpSchedN_force (fun K hK => ?_)
      go_simp
      go_at_call 126
      refine (q1.out _ (bDr (bRefl _))).mono ?_
      rintro e w1 ⟨rfl, b1⟩
      have B1 : Below w.heap.size w w1 := bCall (bDr (bRefl _)) b1
      refine shut_go hK KS ?_
      clear hK K
      refine wpSchedN_t ?_
      refine anyN_one (i := 6) ⟨_, rfl, fun K hK => ?_⟩
      go_simp
      have e9 : ({ data := #[32] } ++ { data := (itB n).toArray } : ByteArray) = ⟨(numT n).toArray⟩ := by
        apply ByteArray.ext
        rw [ByteArray.data_append]
        show #[32] ++ (itB n).toArray = (32 :: itB n).toArray
        simp
      rw [e9]
      (with_reducible refine (pr_str b l ⟨(numT n).toArray⟩ w1 (h.out.of_below B1) hsz).mono ?_)
      rintro e w2 ⟨⟨v, rfl⟩, hp2, k2⟩
      refine hK.out _ _ trivial (fun _ => ?_)
      clear hK K
      refine anyN_end ?_
      refine NoPanic.normal ?_
      go_wp2_with fail
      go_end0
      exact PPost.yes hok.out hp2 ((PKeep.of B1 (Nat.le_of_lt hlt) rfl).trans k2)
    · have hok := Lib.hid (okN_no2 h2)
      go_enter Tryz.func79, Tryz.ntmps79
      go_wp2_with (go_at_call 55; (with_reducible refine (want_no _).mono ?_); rintro e w3 ⟨h9, rfl⟩; unfold PanW at h9; subst h9)
      exact ⟨rfl, PPost.no hok.out (PKeep.refl _ _)⟩
  · have hok := Lib.hid (okN_no1 h1)
    go_enter Tryz.func79, Tryz.ntmps79
    go_wp2_with (go_at_call 55; (with_reducible refine (want_no _).mono ?_); rintro e w3 ⟨h9, rfl⟩; unfold PanW at h9; subst h9)
    exact ⟨rfl, PPost.no hok.out (PKeep.refl _ _)⟩
end Go.Proofs.YtmbopkcmbiommaaGreatDoor
