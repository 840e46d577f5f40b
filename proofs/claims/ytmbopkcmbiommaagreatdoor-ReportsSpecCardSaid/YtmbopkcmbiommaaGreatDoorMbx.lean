/-
  The reference's registry.Check, Secret, before; walked.
-/
import Derived.Test.YtmbopkcmbiommaaGreatDoorMbw
import Derived.Test.YtmbopkcmbiommaaGreatDoorMak
import Derived.Test.YtmbopkcmbiommaaGreatDoorMbh
import Derived.Test.YtmbopkcmbiommaaGreatDoorMaq
import Derived.Test.YtmbopkcmbiommaaGreatDoorMbi
import Derived.Test.YtmbopkcmbiommaaGreatDoorMac
import Derived.Test.YtmbopkcmbiommaaGreatDoorMbf
import Derived.Test.YtmbopkcmbiommaaGreatDoorMap
import Derived.Test.YtmbopkcmbiommaaGreatDoorMaf
import Derived.Test.YtmbopkcmbiommaaGreatDoorMbg
import Derived.Test.YtmbopkcmbiommaaGreatDoorMbj
import Derived.Test.YtmbopkcmbiommaaGreatDoorMax
import Derived.Test.YtmbopkcmbiommaaGreatDoorMav
import Derived.Great.Frames
namespace Go.Proofs.YtmbopkcmbiommaaGreatDoor
open Go Go.RowKit

theorem ra_secret (n : Int) (W : World) : Calls Tryz.prog 48 #[.int .i64 n] W (Same (.bool (secretB n)) W) := by
  unfold secretB
  by_cases h1 : 1 ≤ n <;> by_cases h2 : n < 1073741789
  all_goals
    go_enter Tryz.func48, Tryz.ntmps48
    go_wp2_with fail
    go_ret
    exact ⟨by simp_all, rfl⟩
/-- The number of the entry ahead. -/
def prevN (l : List Ent) : Nat → Int
  | 0 => -1
  | k + 1 => match l[k]? with
    | some g => g.no
    | none => 0
theorem entsB_cons {b : Int} {x : Ent} {l : List Ent} (h : b < x.no) (hp : x.right = true) : entsB b (x :: l) = entsB x.no l := by
  show ((x.right && decide _) && _) = _
  rw [decide_eq_true h, hp]
  rfl
theorem entsB_bad {b : Int} {x : Ent} {l : List Ent} (h : ¬ b < x.no ∨ x.right = false) : entsB b (x :: l) = false := by
  show ((x.right && decide _) && _) = _
  rcases h with h | h
  · rw [decide_eq_false h, Bool.and_false]; rfl
  · rw [h]; rfl
theorem ent_no {x : Ent} (h : x.right = true) : 0 ≤ x.no := by
  unfold Ent.right idB btw at h
  simp only [Bool.and_eq_true, decide_eq_true_eq] at h
  exact h.1.1
set_option maxRecDepth 100000 in
set_option maxHeartbeats 8000000 in
theorem ra_ents (A : Option Addr) (c : Nat) (l : List Ent) (W : World) (hA : Rd W W.heap.size 8 A l.length (l.flatMap Ent.cl)) (hn : l.length ≤ 1000000) :
    Calls Tryz.prog 47 #[.slice A l.length c] W (Ret (.int .i64 (entsE l)) W) := by
  obtain ⟨v, hv⟩ : ∃ v, Hid (entsE l = v) := ⟨_, Lib.hid rfl⟩
  rw [hv.out]
  go_enter Tryz.func47, Tryz.ntmps47
  by_cases l1 : 1024 < l.length
  · have hv2 : Hid (v = 2) := Lib.hid (by rw [← hv.out]; unfold entsE; rw [if_pos l1])
    have e1 : (1024 : Int) < (l.length : Int) := by omega
    clear l1
    go_wp2_with fail
    go_ret
    exact ⟨ret_int hv2.out.symm, bRefl W⟩
  have e1 : ¬ (1024 : Int) < (l.length : Int) := by omega
  have hv1 : Hid ((if entsB (-1) l = true then 0 else 330) = v) := Lib.hid (by rw [← hv.out]; unfold entsE; rw [if_neg l1])
  clear l1 hv
  go_wp2_with fail
  clear e1
  go_loopw [3] (fun i wr => ∃ k : Nat, k ≤ l.length ∧ i = .int .i64 k ∧ Below W.heap.size W wr ∧ Hid (entsB (-1) l = entsB (prevN l k) (l.drop k) ∧ -1 ≤ prevN l k)) (fun i _ => l.length - (intOf i).toNat)
  case atStart => exact ⟨0, Nat.zero_le _, rfl, bRefl W, Lib.hid ⟨rfl, by show (-1 : Int) ≤ -1; omega⟩⟩
  case round =>
    obtain ⟨k, hkn, rfl, hb, hp⟩ := hrel
    by_cases hlt : k < l.length
    · obtain ⟨x, hx⟩ : ∃ y, Hid (l[k]? = some y) := ⟨_, Lib.hid (List.getElem?_eq_getElem hlt)⟩
      have hdrop : Hid (l.drop k = x :: l.drop (k + 1)) := Lib.hid (by
        obtain ⟨hk, e⟩ := List.getElem?_eq_some_iff.1 hx.out
        rw [List.drop_eq_getElem_cons hk, e])
      have hnext : Hid (prevN l (k + 1) = x.no) := Lib.hid (by show (match l[k]? with | some g => g.no | none => 0) = _; rw [hx.out])
      have hbz := hb.size
      obtain ⟨b1, o1, rfl, l1, hc⟩ := Cl_at (f := Ent.cl) (fun _ _ => rfl) (hA.below hb) hlt hx.out
      have e0 := hc 0 (by omega)
      simp only [Ent.cl, List.getElem?_cons_zero, Nat.add_zero] at e0
      obtain ⟨b9, o9, e9, l9, L1⟩ := el_load (f := Ent.cl) (fun _ _ => rfl) (hA.below hb) hlt hx.out Tryz.underlying67 rfl (by kernel_rfl) hbz
      injection e9 with e9
      injection e9 with e8 e9
      subst e8
      subst e9
      have i0 : (0 : Int) ≤ (k : Int) := by omega
      have i1 : (k : Int) < (l.length : Int) := by omega
      have hbad2 : Hid (¬ prevN l k < x.no ∨ x.right = false → v = 330) := Lib.hid (fun h => by
        rw [← hv1.out, hp.out.1, hdrop.out, entsB_bad h]
        rfl)
      have hgood2 : Hid (prevN l k < x.no → x.right = true → entsB (-1) l = entsB (prevN l (k + 1)) (l.drop (k + 1)) ∧ -1 ≤ prevN l (k + 1)) := Lib.hid (fun h h2 => ⟨by rw [hp.out.1, hdrop.out, entsB_cons h h2, hnext.out], by rw [hnext.out]; have := hp.out.2; omega⟩)
      have q : Hid (∀ w', Below wr.heap.size wr w' → Calls Tryz.prog 84 #[.agg x.cl.toArray] w' (Ret (.bool x.right) w')) := Lib.hid (fun w' _ => rg_valid x w')
      have hno := Lib.hid (fun h : x.right = true => ent_no h)
      have KS : Hid (∀ w', Below wr.heap.size wr w' → (Instr.loadAt 67 (.pointer (some ⟨b1, o1 + k * 8, none⟩))).run Tryz.prog w' = .ok (.agg x.cl.toArray) w' ∧ w'.cell? ⟨b1, o1 + k * 8, none⟩ = some (.int .i64 x.no)) := Lib.hid (fun w' h => ⟨L1 w' h, (h.cell (p := ⟨b1, o1 + k * 8, none⟩) (by show b1 < _; omega)).trans e0⟩)
      clear e0 hc L1
      generalize x.cl.toArray = X at *
      generalize x.right = ok at q hbad2 hgood2 hno
      cases ok
      · have hv2 := Lib.hid (hbad2.out (.inr rfl))
        clear hbad2 hgood2 hno
        go_upto_region 6 with fail
        refine wp_region_schN (g := 0) KS [(0, 1), (1, 1), (2, 1), (3, 2), (4, 0), (5, 1), (6, 1), (7, 1), (8, 1), (9, 1), (10, 1), (11, 1), (12, 1), (13, 1), (14, 1), (15, 1), (16, 1), (17, 1), (18, 1), (19, 1), (20, 1), (21, 1), (22, 1), (23, 1)] ?_
        simp only [pickS, List.getElem?_cons_zero, List.getElem?_cons_succ]
        refine wpSchedN_t ?_
        refine wpSchedN_t ?_
        refine wpSchedN_t ?_
        refine wpSchedN_r (v := ?vq1) (hv := ?hq1) ?_; case hq1 => (intro w hSw; (first | refine (exec_load rfl rfl hSw).trans ?_ | refine (exec_load rfl rfl hSw.1).trans ?_ | refine (exec_load rfl rfl hSw.2.1).trans ?_ | refine (exec_load rfl rfl hSw.2.2.1).trans ?_ | refine (exec_load rfl rfl hSw.2).trans ?_ | refine (exec_load rfl rfl hSw.2.2).trans ?_); with_reducible rfl)
        refine wpSchedN_force (fun K hK => ?_)
        go_simp; (first | (go_at_call 84; (with_reducible refine (q.out _ (bDr (bRefl _))).mono ?_); rintro e w6 ⟨rfl, b6⟩; have B6 : Below wr.heap.size wr w6 := bCall (bDr (bRefl _)) b6) | skip)
        refine shut_go hK KS ?_
        clear hK K
        refine wpSchedN_t ?_
        refine wpSchedN_t ?_
        refine wpSchedN_p ?_
        refine wpSchedN_p ?_
        refine wpSchedN_p ?_
        refine wpSchedN_p ?_
        refine wpSchedN_p ?_
        refine wpSchedN_p ?_
        refine wpSchedN_p ?_
        refine wpSchedN_p ?_
        refine wpSchedN_p ?_
        refine wpSchedN_p ?_
        refine wpSchedN_p ?_
        refine wpSchedN_p ?_
        refine wpSchedN_p ?_
        refine wpSchedN_p ?_
        refine wpSchedN_p ?_
        refine wpSchedN_p ?_
        refine wpSchedN_t ?_
        refine anyN_end ?_
        refine NoPanic.normal ?_
        have hb6 := hb.trans (B6.mono hbz)
        go_wp2_with fail
        go_ret
        exact ⟨ret_int hv2.out.symm, hb6⟩
      obtain _ | k' := k
      · have hP0 : prevN l 0 = -1 := rfl
        have KS0 : Hid (∀ w', Below wr.heap.size wr w' → (Instr.loadAt 67 (.pointer (some ⟨b1, o1, none⟩))).run Tryz.prog w' = .ok (.agg X) w') := Lib.hid (fun w' h => by have := (KS.out w' h).1; simpa only [Nat.zero_mul, Nat.add_zero] using this)
        have i6 : (0 : Int) < (l.length : Int) := by omega
        have hnx := Lib.hid (hgood2.out (by rw [hP0]; have := hno.out rfl; omega) rfl)
        clear KS hbad2 hgood2 hno
        go_upto_region 6 with fail
        refine wp_region_schN (g := 0) KS0 [(0, 1), (1, 1), (2, 1), (3, 2), (4, 0), (5, 1), (6, 1), (7, 1), (8, 1), (9, 1), (10, 1), (11, 1), (12, 1), (13, 1), (14, 1), (15, 1), (16, 1), (17, 1), (18, 1), (19, 1), (20, 1), (21, 1), (22, 1), (23, 1)] ?_
        simp only [pickS, List.getElem?_cons_zero, List.getElem?_cons_succ]
        refine wpSchedN_t ?_
        refine wpSchedN_t ?_
        refine wpSchedN_t ?_
        refine wpSchedN_r (v := ?vq2) (hv := ?hq2) ?_; case hq2 => (intro w hSw; (first | refine (exec_load rfl rfl hSw).trans ?_ | refine (exec_load rfl rfl hSw.1).trans ?_ | refine (exec_load rfl rfl hSw.2.1).trans ?_ | refine (exec_load rfl rfl hSw.2.2.1).trans ?_ | refine (exec_load rfl rfl hSw.2).trans ?_ | refine (exec_load rfl rfl hSw.2.2).trans ?_); with_reducible rfl)
        refine wpSchedN_force (fun K hK => ?_)
        go_simp; (first | (go_at_call 84; (with_reducible refine (q.out _ (bDr (bRefl _))).mono ?_); rintro e w6 ⟨rfl, b6⟩; have B6 : Below wr.heap.size wr w6 := bCall (bDr (bRefl _)) b6) | skip)
        refine shut_go hK KS0 ?_
        clear hK K
        refine wpSchedN_t ?_
        refine wpSchedN_t ?_
        refine wpSchedN_t ?_
        refine wpSchedN_t ?_
        refine wpSchedN_t ?_
        refine wpSchedN_p ?_
        refine wpSchedN_p ?_
        refine wpSchedN_p ?_
        refine wpSchedN_p ?_
        refine wpSchedN_p ?_
        refine wpSchedN_p ?_
        refine wpSchedN_p ?_
        refine wpSchedN_p ?_
        refine wpSchedN_p ?_
        refine wpSchedN_p ?_
        refine wpSchedN_p ?_
        refine wpSchedN_p ?_
        refine wpSchedN_t ?_
        refine wpSchedN_t ?_
        refine anyN_end ?_
        refine NoPanic.normal ?_
        have hb6 := hb.trans (B6.mono hbz)
        go_wp2_with fail
        exact ⟨⟨0 + 1, by omega, by go_num, hb6, Lib.hid hnx.out⟩, by simp [intOf]; omega⟩
      · obtain ⟨z, hz⟩ : ∃ y, Hid (l[k']? = some y) := ⟨_, Lib.hid (List.getElem?_eq_getElem (by omega))⟩
        have hPz : prevN l (k' + 1) = z.no := by show (match l[k']? with | some g => g.no | none => 0) = _; rw [hz.out]
        rw [hPz] at hbad2 hgood2
        obtain ⟨b3, o3, e3, l3, hc3⟩ := Cl_at (f := Ent.cl) (fun _ _ => rfl) (hA.below hb) (show k' < l.length by omega) hz.out
        injection e3 with e3
        injection e3 with e3 e4
        subst e3
        subst e4
        have c3 := hc3 0 (by omega)
        simp only [Ent.cl, List.getElem?_cons_zero, Nat.add_zero] at c3
        have i2 : (0 : Int) ≤ (k' : Int) := by omega
        have i3 : (k' : Int) < (l.length : Int) := by omega
        have i4 : IntKind.i64.wrap (k' : Int) = (k' : Int) := by rw [IntKind.wrap_i64]; omega
        have i5 : (0 : Int) ≤ (k' : Int) + 1 := by omega
        have i6 : (k' : Int) + 1 < (l.length : Int) := by omega
        have KT : Hid (∀ w', Below wr.heap.size wr w' → (Instr.loadAt 67 (.pointer (some ⟨b1, o1 + (k' + 1) * 8, none⟩))).run Tryz.prog w' = .ok (.agg X) w' ∧ w'.cell? ⟨b1, o1 + (k' + 1) * 8, none⟩ = some (.int .i64 x.no) ∧ w'.cell? ⟨b1, o1 + k' * 8, none⟩ = some (.int .i64 z.no)) := Lib.hid (fun w' h => ⟨(KS.out w' h).1, (KS.out w' h).2, (h.cell (p := ⟨b1, o1 + k' * 8, none⟩) (by show b1 < _; omega)).trans c3⟩)
        clear hc3 c3 hPz
        by_cases f10 : x.no ≤ z.no
        · have hv2 := Lib.hid (hbad2.out (.inl (by omega)))
          clear hbad2 hgood2 hno
          go_upto_region 6 with fail
          refine wp_region_schN (g := 0) KT [(0, 1), (1, 1), (2, 1), (3, 2), (4, 0), (5, 1), (6, 1), (7, 1), (8, 1), (9, 1), (10, 1), (11, 1), (12, 1), (13, 1), (14, 2), (15, 1), (16, 1), (17, 1), (18, 1), (19, 1), (20, 2), (21, 1), (22, 1), (23, 1)] ?_
          simp only [pickS, List.getElem?_cons_zero, List.getElem?_cons_succ]
          refine wpSchedN_t ?_
          refine wpSchedN_t ?_
          refine wpSchedN_t ?_
          refine wpSchedN_r (v := ?vq3) (hv := ?hq3) ?_; case hq3 => (intro w hSw; (first | refine (exec_load rfl rfl hSw).trans ?_ | refine (exec_load rfl rfl hSw.1).trans ?_ | refine (exec_load rfl rfl hSw.2.1).trans ?_ | refine (exec_load rfl rfl hSw.2.2.1).trans ?_ | refine (exec_load rfl rfl hSw.2).trans ?_ | refine (exec_load rfl rfl hSw.2.2).trans ?_); with_reducible rfl)
          refine wpSchedN_force (fun K hK => ?_)
          go_simp; (first | (go_at_call 84; (with_reducible refine (q.out _ (bDr (bRefl _))).mono ?_); rintro e w6 ⟨rfl, b6⟩; have B6 : Below wr.heap.size wr w6 := bCall (bDr (bRefl _)) b6) | skip)
          refine shut_go hK KT ?_
          clear hK K
          refine wpSchedN_t ?_
          refine wpSchedN_t ?_
          refine wpSchedN_t ?_
          refine wpSchedN_t ?_
          refine wpSchedN_t ?_
          refine wpSchedN_t ?_
          refine wpSchedN_t ?_
          refine wpSchedN_t ?_
          refine wpSchedN_t ?_
          refine wpSchedN_r ?_
          refine wpSchedN_t ?_
          refine wpSchedN_t ?_
          refine wpSchedN_t ?_
          refine wpSchedN_t ?_
          refine wpSchedN_t ?_
          refine wpSchedN_r ?_
          refine wpSchedN_t ?_
          refine wpSchedN_t ?_
          refine wpSchedN_t ?_
          refine anyN_end ?_
          refine NoPanic.normal ?_
          have hb6 := hb.trans (B6.mono hbz)
          go_wp2_with fail
          go_ret
          exact ⟨ret_int hv2.out.symm, hb6⟩
        have hnx := Lib.hid (hgood2.out (by omega) rfl)
        clear hbad2 hgood2 hno
        go_upto_region 6 with fail
        refine wp_region_schN (g := 0) KT [(0, 1), (1, 1), (2, 1), (3, 2), (4, 0), (5, 1), (6, 1), (7, 1), (8, 1), (9, 1), (10, 1), (11, 1), (12, 1), (13, 1), (14, 2), (15, 1), (16, 1), (17, 1), (18, 1), (19, 1), (20, 2), (21, 1), (22, 1), (23, 1)] ?_
        simp only [pickS, List.getElem?_cons_zero, List.getElem?_cons_succ]
        refine wpSchedN_t ?_
        refine wpSchedN_t ?_
        refine wpSchedN_t ?_
        refine wpSchedN_r (v := ?vq4) (hv := ?hq4) ?_; case hq4 => (intro w hSw; (first | refine (exec_load rfl rfl hSw).trans ?_ | refine (exec_load rfl rfl hSw.1).trans ?_ | refine (exec_load rfl rfl hSw.2.1).trans ?_ | refine (exec_load rfl rfl hSw.2.2.1).trans ?_ | refine (exec_load rfl rfl hSw.2).trans ?_ | refine (exec_load rfl rfl hSw.2.2).trans ?_); with_reducible rfl)
        refine wpSchedN_force (fun K hK => ?_)
        go_simp; (first | (go_at_call 84; (with_reducible refine (q.out _ (bDr (bRefl _))).mono ?_); rintro e w6 ⟨rfl, b6⟩; have B6 : Below wr.heap.size wr w6 := bCall (bDr (bRefl _)) b6) | skip)
        refine shut_go hK KT ?_
        clear hK K
        refine wpSchedN_t ?_
        refine wpSchedN_t ?_
        refine wpSchedN_t ?_
        refine wpSchedN_t ?_
        refine wpSchedN_t ?_
        refine wpSchedN_t ?_
        refine wpSchedN_t ?_
        refine wpSchedN_t ?_
        refine wpSchedN_t ?_
        refine wpSchedN_r ?_
        refine wpSchedN_t ?_
        refine wpSchedN_t ?_
        refine wpSchedN_t ?_
        refine wpSchedN_t ?_
        refine wpSchedN_t ?_
        refine wpSchedN_r ?_
        refine wpSchedN_t ?_
        refine wpSchedN_t ?_
        refine wpSchedN_t ?_
        refine anyN_end ?_
        refine NoPanic.normal ?_
        have hb6 := hb.trans (B6.mono hbz)
        go_wp2_with fail
        exact ⟨⟨k' + 1 + 1, by omega, by go_num, hb6, Lib.hid hnx.out⟩, by simp [intOf]; omega⟩
    · have hv2 : Hid (v = 0) := Lib.hid (by rw [← hv1.out, hp.out.1, List.drop_of_length_le (by omega)]; rfl)
      go_wp2_with fail
      go_ret
      exact ⟨ret_int hv2.out.symm, hb⟩
theorem ra_before (x y : Slp) (W : World) : Calls Tryz.prog 49 #[.agg x.cl.toArray, .agg y.cl.toArray] W (Ret (.bool (decide (x.run < y.run ∨ x.run = y.run ∧ x.leg < y.leg))) W) := by
  have B1 := (Blk.new W 71 x.cl.toArray _ rfl).alloc (.cells y.cl.toArray 71)
  have B2 := Blk.new (W.alloc (.cells x.cl.toArray 71)) 71 y.cl.toArray _ rfl
  have hb := bAl (bAl (bRefl W) (.cells x.cl.toArray 71)) (.cells y.cl.toArray 71)
  go_enter Tryz.func49, Tryz.ntmps49
  go_upto_region 1 with fail
  generalize hF : (W.alloc (.cells x.cl.toArray 71)).heap.size = F at *
  have hF' : W.heap.size + 1 = F := by rw [← hF]; simp
  rw [hF']
  generalize (W.alloc (.cells x.cl.toArray 71)).alloc (.cells y.cl.toArray 71) = w1 at *
  have c0 : w1.cell? ⟨W.heap.size, 0, none⟩ = some (.int .i64 x.run) := B1.cell 0
  have c1 : w1.cell? ⟨W.heap.size, 1, none⟩ = some (.int .i64 x.leg) := B1.cell 1
  have d0 : w1.cell? ⟨F, 0, none⟩ = some (.int .i64 y.run) := B2.cell 0
  have d1 : w1.cell? ⟨F, 1, none⟩ = some (.int .i64 y.leg) := B2.cell 1
  clear hF hF' B1 B2
  obtain ⟨r, g, _, _⟩ := x
  obtain ⟨r2, g2, _, _⟩ := y
  dsimp only at *
  by_cases f0 : r < r2
  · have hv : Hid (decide (r < r2 ∨ r = r2 ∧ g < g2) = true) := Lib.hid (decide_eq_true (.inl f0))
    rw [hv.out]
    go_wp2_with fail
    go_ret
    exact ⟨(by first | rfl | exact ret_bool (by simp; omega) | exact ret_bool (by have := f1.out; simp; omega) | exact ret_bool (by simp)), hb⟩
  by_cases f1 : r = r2
  · have g1 : (r == r2) = true := by simp only [beq_iff_eq]; exact f1
    by_cases f2 : g < g2
    · have hv : Hid (decide (r < r2 ∨ r = r2 ∧ g < g2) = true) := Lib.hid (decide_eq_true (.inr ⟨f1, f2⟩))
      rw [hv.out]
      replace f1 := Lib.hid f1
      go_wp2_with fail
      go_ret
      exact ⟨(by first | rfl | exact ret_bool (by simp; omega) | exact ret_bool (by have := f1.out; simp; omega) | exact ret_bool (by simp)), hb⟩
    · have hv : Hid (decide (r < r2 ∨ r = r2 ∧ g < g2) = false) := Lib.hid (decide_eq_false (by omega))
      rw [hv.out]
      replace f1 := Lib.hid f1
      go_wp2_with fail
      go_ret
      exact ⟨(by first | rfl | exact ret_bool (by simp; omega) | exact ret_bool (by have := f1.out; simp; omega) | exact ret_bool (by simp)), hb⟩
  · have g1 : (r == r2) = false := by simp only [beq_eq_false_iff_ne]; exact f1
    have hv : Hid (decide (r < r2 ∨ r = r2 ∧ g < g2) = false) := Lib.hid (decide_eq_false (by omega))
    rw [hv.out]
    replace f1 := Lib.hid f1
    go_wp2_with fail
    go_ret
    exact ⟨(by first | rfl | exact ret_bool (by simp; omega) | exact ret_bool (by have := f1.out; simp; omega) | exact ret_bool (by simp)), hb⟩
end Go.Proofs.YtmbopkcmbiommaaGreatDoor

/-
  The reference's post.Check; walked.
-/
namespace Go.Proofs.YtmbopkcmbiommaaGreatDoor
open Go Go.RowKit

theorem LinsC.more {w : World} {B B' : Nat} {A : Option Addr} {l : List Lin} (h : LinsC w B A l) (b : B ≤ B') : LinsC w B' A l := by
  obtain ⟨ls, l1, l2, l3⟩ := h
  exact ⟨ls, l1, l2.more b, fun k y hy => by obtain ⟨q, e, r, c⟩ := l3 k y hy; exact ⟨q, e, r.more b, c⟩⟩
set_option maxRecDepth 100000 in
set_option maxHeartbeats 8000000 in
theorem ref_check (s : WS) (x : Wld) (W : World) (hx : WldAt W W.heap.size s x) (hC : LinsC W W.heap.size s.al x.lines) (hs : x.small) :
    Calls Tryz.prog 21 #[.agg (s.cl x).toArray] W (Ret (.int .i64 (postE x)) W) := by
  obtain ⟨v, hv⟩ : ∃ v, Hid (postE x = v) := ⟨_, Lib.hid rfl⟩
  rw [hv.out]
  have BX := Blk.new W 35 (s.cl x).toArray _ rfl
  have hb := bAl (bRefl W) (.cells (s.cl x).toArray 35)
  have hx1 := (hx.below hb).more hb.size
  have hC1 := (hC.below hb).more hb.size
  go_enter Tryz.func21, Tryz.ntmps21
  go_upto_region 1 with fail
  generalize W.alloc (.cells (s.cl x).toArray 35) = w1 at *
  have hbx := Lib.hid (fun w' (b : Below w1.heap.size w1 w') => bCall hb b)
  have KC : Hid (∀ w', Below w1.heap.size w1 w' → (w'.cell? ⟨W.heap.size, 0, none⟩ = some (.int .i64 x.offs) ∧ w'.cell? ⟨W.heap.size, 1, none⟩ = some (.slice s.al x.lines.length s.cl_) ∧ w'.cell? ⟨W.heap.size, 2, none⟩ = some (.slice s.ab x.base.length s.cb) ∧ w'.cell? ⟨W.heap.size, 3, none⟩ = some (.slice s.ag x.leg.length s.cg) ∧ w'.cell? ⟨W.heap.size, 4, none⟩ = some (.slice s.at_ x.tiers.length s.ct) ∧ w'.cell? ⟨W.heap.size, 5, none⟩ = some (.slice s.ao x.orders.length s.co) ∧ w'.cell? ⟨W.heap.size, 6, none⟩ = some (.int .i64 x.people) ∧ w'.cell? ⟨W.heap.size, 7, none⟩ = some (.slice s.ae x.ents.length s.ce) ∧ w'.cell? ⟨W.heap.size, 9, none⟩ = some (.slice s.as_ x.secs.length s.cs) ∧ w'.cell? ⟨W.heap.size, 42, none⟩ = some (.slice s.af x.faults.length s.cf))) := Lib.hid (fun w' b =>
    ⟨(BX.below b BX.lt).cell 0, (BX.below b BX.lt).cell 1, (BX.below b BX.lt).cell 2, (BX.below b BX.lt).cell 3, (BX.below b BX.lt).cell 4, (BX.below b BX.lt).cell 5, (BX.below b BX.lt).cell 6, (BX.below b BX.lt).cell 7, (BX.below b BX.lt).cell 9, by rw [(BX.below b BX.lt).cell 42, ws_last hs.seed]⟩)
  have q1 := Lib.hid (ra_table x.offs s.al s.cl_ x.lines w1 hC1 hs.lines hs.line)
  have q2 : Hid (∀ w', Below w1.heap.size w1 w' → Calls Tryz.prog 45 #[.agg #[.slice s.ab x.base.length s.cb, .slice s.ag x.leg.length s.cg, .slice s.at_ x.tiers.length s.ct]] w' (Ret (.int .i64 (tariffE x.base x.leg x.tiers)) w')) := Lib.hid (fun w' b =>
    ra_tariff s.ab s.ag s.at_ s.cb s.cg s.ct x.base x.leg x.tiers w' ((hx1.rb.below b).more b.size) ((hx1.rg.below b).more b.size) ((hx1.rt.below b).more b.size) hs.base hs.tiers)
  have q4 : Hid (∀ w', Below w1.heap.size w1 w' → Calls Tryz.prog 47 #[.slice s.ae x.ents.length s.ce] w' (Ret (.int .i64 (entsE x.ents)) w')) := Lib.hid (fun w' b =>
    ra_ents s.ae s.ce x.ents w' ((hx1.re.below b).more b.size) hs.ents)
  have hO := Lib.hid hx1.ro
  have hS := Lib.hid hx1.rs
  have hF := Lib.hid hx1.rf
  have hfo := Lib.hid hs.order
  have hsn : x.secs.length ≤ 1000000 := hs.secs
  have hfn : x.faults.length ≤ 1000000 := hs.faults
  have hnb : (x.base.length : Int) ≤ 1000000 := by have := hs.base; omega
  clear hx hC hx1 hC1 BX hb
  have hpe : Hid (postE x = if tableE x.offs x.lines = 0 then (if tariffE x.base x.leg x.tiers = 0 then (if btw x.people 0 1024 = true then (if x.orders.length ≤ 64 ∧ x.orders.all (fun o => o.right x.offs x.people (x.base.length : Int)) = true then (if entsE x.ents = 0 then (if (x.secs.length : Int) = x.offs ∧ x.secs.all secretB = true then (if slpsB none x.faults = true then 0 else 530) else 530) else entsE x.ents) else 220) else 530) else tariffE x.base x.leg x.tiers) else tableE x.offs x.lines) := Lib.hid (by unfold postE; rfl)
  generalize tableE x.offs x.lines = E1 at *
  generalize tariffE x.base x.leg x.tiers = E2 at *
  generalize entsE x.ents = E4 at *
  have hv2 := Lib.hid (hpe.out.symm.trans hv.out)
  clear hpe hv
  obtain ⟨d0, d1, d2, d3, d4, d5, d6, d7, d9, d42⟩ := KC.out _ (bRefl w1)
  go_wp2_with fail
  (with_reducible refine q1.out.mono ?_)
  rintro e w2 ⟨rfl, b2⟩
  have B2 := bCall (bRefl w1) b2
  clear b2 q1 d0 d1 d2 d3 d4 d5 d6 d7 d9 d42
  by_cases h1 : E1 = 0
  case neg =>
    have hr : Hid (v = E1) := Lib.hid (by rw [← hv2.out, if_neg h1])
    have g1 : (E1 != 0) = true := by simp only [bne_iff_ne, ne_eq]; exact h1
    clear hv2
    go_wp2_with fail
    go_ret
    exact ⟨ret_int hr.out.symm, hbx.out _ B2⟩
  subst h1
  rw [if_pos rfl] at hv2
  obtain ⟨d0, d1, d2, d3, d4, d5, d6, d7, d9, d42⟩ := KC.out _ B2
  go_wp2_with fail
  (with_reducible refine (q2.out _ B2).mono ?_)
  rintro e w3 ⟨rfl, b3⟩
  have B3 := bCall B2 b3
  clear b3 q2 d0 d1 d2 d3 d4 d5 d6 d7 d9 d42
  by_cases h2 : E2 = 0
  case neg =>
    have hr : Hid (v = E2) := Lib.hid (by rw [← hv2.out, if_neg h2])
    have g1 : (E2 != 0) = true := by simp only [bne_iff_ne, ne_eq]; exact h2
    clear hv2
    go_wp2_with fail
    go_ret
    exact ⟨ret_int hr.out.symm, hbx.out _ B3⟩
  subst h2
  rw [if_pos rfl] at hv2
  obtain ⟨d0, d1, d2, d3, d4, d5, d6, d7, d9, d42⟩ := KC.out _ B3
  clear d0 d1 d2 d3 d4 d7 d9 d42
  by_cases a1 : x.people < 0
  case pos =>
    have hr : Hid (v = 530) := Lib.hid (by rw [← hv2.out, if_neg (by unfold btw; simp; omega)])
    clear hv2
    go_wp2_with fail
    go_ret
    exact ⟨ret_int hr.out.symm, hbx.out _ B3⟩
  by_cases a2 : 1024 < x.people
  case pos =>
    have hr : Hid (v = 530) := Lib.hid (by rw [← hv2.out, if_neg (by unfold btw; simp; omega)])
    clear hv2
    go_wp2_with fail
    go_ret
    exact ⟨ret_int hr.out.symm, hbx.out _ B3⟩
  rw [if_pos (by unfold btw; simp; omega)] at hv2
  by_cases a3 : 64 < x.orders.length
  case pos =>
    have hr : Hid (v = 220) := Lib.hid (by rw [← hv2.out, if_neg (by omega)])
    have a4 : (64 : Int) < (x.orders.length : Int) := by omega
    clear hv2 a3
    go_wp2_with fail
    go_ret
    exact ⟨ret_int hr.out.symm, hbx.out _ B3⟩
  have a4 : ¬ (64 : Int) < (x.orders.length : Int) := by omega
  have a5 : Hid (x.orders.length ≤ 64) := Lib.hid (by omega)
  clear a3
  go_wp2_with fail
  clear d5 d6 a1 a2 a4
  have hno : Hid (∀ (k : Nat) y, x.orders[k]? = some y → y.right x.offs x.people (x.base.length : Int) = false → v = 220) := Lib.hid (fun k y hy h => by
    rw [← hv2.out, if_neg]
    rintro ⟨-, h2⟩
    have := List.all_eq_true.1 h2 y (List.mem_of_getElem? hy)
    rw [h] at this
    cases this)
  go_loopw [4] (fun i wr => ∃ k : Nat, k ≤ x.orders.length ∧ i = .int .i64 k ∧ Below w1.heap.size w1 wr ∧ Hid (∀ y ∈ x.orders.take k, (fun o : Odr => o.right x.offs x.people (x.base.length : Int)) y = true)) (fun i _ => x.orders.length - (intOf i).toNat)
  case atStart => exact ⟨0, Nat.zero_le _, rfl, B3, Lib.hid (by simp)⟩
  case round =>
    clear B2 B3
    obtain ⟨k, hkn, rfl, hb, hp⟩ := hrel
    by_cases hlt : k < x.orders.length
    · obtain ⟨y, hy⟩ : ∃ y, Hid (x.orders[k]? = some y) := ⟨_, Lib.hid (List.getElem?_eq_getElem hlt)⟩
      have hfy := Lib.hid (hfo.out y (List.mem_of_getElem? hy.out))
      obtain ⟨vs, l1, l2, l3⟩ := hO.out
      obtain ⟨A, c, es, rs⟩ := l3 k y hy.out
      have za : (x.orders.zip vs)[k]? = some (y, Value.slice A y.ag.length c) := by rw [List.getElem?_zip_eq_some]; exact ⟨hy.out, es⟩
      have hbz := hb.size
      obtain ⟨b1, o1, e8, l1', L1⟩ := el_load (f := fun p : Odr × Value => p.1.cl p.2) (fun _ _ => rfl) (l2.below hb) hlt za Tryz.underlying65 rfl (by kernel_rfl) hbz
      dsimp only at L1
      have i0 : (0 : Int) ≤ (k : Int) := by omega
      have i1 : (k : Int) < (x.orders.length : Int) := by omega
      obtain ⟨d0, d1, d2, d3, d4, d5, d6, d7, d9, d42⟩ := KC.out _ hb
      clear d0 d1 d2 d3 d4 d6 d7 d9 d42
      rw [e8] at d5
      have q : Hid (∀ w', Below wr.heap.size wr w' → Calls Tryz.prog 46 #[.agg (y.cl (.slice A y.ag.length c)).toArray, .int .i64 x.offs, .int .i64 x.people, .int .i64 (x.base.length : Nat)] w' (Ret (.bool (y.right x.offs x.people (x.base.length : Int))) w')) := Lib.hid (fun w' h => ra_odr y A c x.offs x.people (x.base.length : Int) w' ((rs.below (bCall hb h)).more (Nat.le_trans hbz h.size)) hfy.out.1)
      have hp1 := Lib.hid (fun h => all_on (p := fun o : Odr => o.right x.offs x.people (x.base.length : Int)) hp.out hy.out h)
      have hp0 := Lib.hid (fun h => hno.out k y hy.out h)
      generalize (y.cl (.slice A y.ag.length c)).toArray = X at *
      generalize y.right x.offs x.people (x.base.length : Int) = ok at q hp1 hp0
      have KS : Hid (∀ w', Below wr.heap.size wr w' → (Instr.loadAt 65 (.pointer (some ⟨b1, o1 + k * 11, none⟩))).run Tryz.prog w' = .ok (.agg X) w' ∧ w'.cell? ⟨W.heap.size, 0, none⟩ = some (.int .i64 x.offs) ∧ w'.cell? ⟨W.heap.size, 2, none⟩ = some (.slice s.ab x.base.length s.cb) ∧ w'.cell? ⟨W.heap.size, 5, none⟩ = some (.slice (some ⟨b1, o1, none⟩) x.orders.length s.co) ∧ w'.cell? ⟨W.heap.size, 6, none⟩ = some (.int .i64 x.people)) := Lib.hid (fun w' h => ⟨L1 w' h, (KC.out _ (bCall hb h)).1, (KC.out _ (bCall hb h)).2.2.1, e8 ▸ (KC.out _ (bCall hb h)).2.2.2.2.2.1, (KC.out _ (bCall hb h)).2.2.2.2.2.2.1⟩)
      clear L1 l2 l3 es rs za
      go_upto_region 14 with fail
      refine wp_region_schN (g := 0) KS [(0, 1), (1, 2), (2, 1), (3, 1), (4, 2), (5, 1), (6, 1), (7, 2), (8, 1), (9, 2), (10, 1), (11, 1), (12, 2), (13, 1), (14, 0), (15, 1)] ?_
      simp only [pickS, List.getElem?_cons_zero, List.getElem?_cons_succ]
      refine wpSchedN_t ?_
      refine wpSchedN_r ?_
      refine wpSchedN_t ?_
      refine wpSchedN_t ?_
      refine wpSchedN_r (v := ?vq1) (hv := ?hq1) ?_; case hq1 => (intro w hSw; (first | refine (exec_load rfl rfl hSw).trans ?_ | refine (exec_load rfl rfl hSw.1).trans ?_ | refine (exec_load rfl rfl hSw.2.1).trans ?_ | refine (exec_load rfl rfl hSw.2.2.1).trans ?_ | refine (exec_load rfl rfl hSw.2).trans ?_ | refine (exec_load rfl rfl hSw.2.2).trans ?_); with_reducible rfl)
      refine wpSchedN_t ?_
      refine wpSchedN_t ?_
      refine wpSchedN_r ?_
      refine wpSchedN_t ?_
      refine wpSchedN_r ?_
      refine wpSchedN_t ?_
      refine wpSchedN_t ?_
      refine wpSchedN_r ?_
      refine wpSchedN_t ?_
      refine wpSchedN_force (fun K hK => ?_)
      go_simp; (first | (go_at_call 46; (with_reducible refine (q.out _ (bDr (bRefl _))).mono ?_); rintro e w6 ⟨rfl, b6⟩; have B6 : Below wr.heap.size wr w6 := bCall (bDr (bRefl _)) b6) | skip)
      refine shut_go hK KS ?_
      clear hK K
      refine wpSchedN_t ?_
      refine anyN_end ?_
      refine NoPanic.normal ?_
      have hb6 := bCall hb B6
      clear KS d5 q b6
      cases ok
      · have hr := Lib.hid (hp0.out rfl)
        clear hp0 hp1
        go_wp2_with fail
        go_ret
        exact ⟨ret_int hr.out.symm, hbx.out _ hb6⟩
      · have hp2 := Lib.hid (hp1.out rfl)
        clear hp0 hp1
        go_wp2_with fail
        exact ⟨⟨k + 1, by omega, by go_num, hp2⟩, by simp [intOf]; omega⟩
    · have hall : Hid (x.orders.all (fun o => o.right x.offs x.people (x.base.length : Int)) = true) := Lib.hid (List.all_eq_true.2 (by have := hp.out; rwa [List.take_of_length_le (by omega)] at this))
      obtain ⟨d0, d1, d2, d3, d4, d5, d6, d7, d9, d42⟩ := KC.out _ hb
      clear d0 d1 d2 d3 d4 d6 d9 d42 hp hno
      rw [if_pos ⟨a5.out, hall.out⟩] at hv2
      clear hall
      go_wp2_with fail
      (with_reducible refine (q4.out _ hb).mono ?_)
      rintro e w5 ⟨rfl, b5⟩
      have B5 := bCall hb b5
      clear b5 q4 d5 d7
      by_cases h4 : E4 = 0
      case neg =>
        have hr : Hid (v = E4) := Lib.hid (by rw [← hv2.out, if_neg h4])
        have g1 : (E4 != 0) = true := by simp only [bne_iff_ne, ne_eq]; exact h4
        clear hv2
        go_wp2_with fail
        go_ret
        exact ⟨ret_int hr.out.symm, hbx.out _ B5⟩
      subst h4
      rw [if_pos rfl] at hv2
      obtain ⟨d0, d1, d2, d3, d4, d5, d6, d7, d9, d42⟩ := KC.out _ B5
      clear d1 d2 d3 d4 d5 d6 d7 d42
      by_cases h5 : (x.secs.length : Int) = x.offs
      case neg =>
        have hr : Hid (v = 530) := Lib.hid (by rw [← hv2.out, if_neg (fun h => h5 h.1)])
        have g1 : ((x.secs.length : Int) != x.offs) = true := by simp only [bne_iff_ne, ne_eq]; exact h5
        clear hv2
        go_wp2_with fail
        go_ret
        exact ⟨ret_int hr.out.symm, hbx.out _ B5⟩
      have g1 : ((x.secs.length : Int) != x.offs) = false := by simp only [bne_eq_false_iff_eq]; exact h5
      replace h5 := Lib.hid h5
      have hno : Hid (∀ (k : Nat) y, x.secs[k]? = some y → secretB y = false → v = 530) := Lib.hid (fun k y hy h => by
        rw [← hv2.out, if_neg]
        rintro ⟨-, h2⟩
        have := List.all_eq_true.1 h2 y (List.mem_of_getElem? hy)
        rw [h] at this
        cases this)
      go_wp2_with fail
      clear d0 d9 g1
      go_loopw [5] (fun i wr => ∃ k : Nat, k ≤ x.secs.length ∧ i = .int .i64 k ∧ Below w1.heap.size w1 wr ∧ Hid (∀ y ∈ x.secs.take k, secretB y = true)) (fun i _ => x.secs.length - (intOf i).toNat)
      case atStart => exact ⟨0, Nat.zero_le _, rfl, B5, Lib.hid (by simp)⟩
      case round =>
        clear B5
        clear hb
        obtain ⟨k, hkn, rfl, hb, hp⟩ := hrel
        obtain ⟨d0, d1, d2, d3, d4, d5, d6, d7, d9, d42⟩ := KC.out _ hb
        clear d0 d1 d2 d3 d4 d5 d6 d7
        by_cases hlt : k < x.secs.length
        · obtain ⟨y, hy⟩ : ∃ y, Hid (x.secs[k]? = some y) := ⟨_, Lib.hid (List.getElem?_eq_getElem hlt)⟩
          obtain ⟨b1, o1, e8, l1, hc⟩ := (hS.out.below hb).2 (by omega)
          have ck := hc k _ (ints_at hy.out)
          have i0 : (0 : Int) ≤ (k : Int) := by omega
          have i1 : (k : Int) < (x.secs.length : Int) := by omega
          rw [e8] at d9
          have q := ra_secret y wr
          have hp1 := Lib.hid (fun h => all_on (p := secretB) hp.out hy.out h)
          have hp0 := Lib.hid (fun h => hno.out k y hy.out h)
          generalize secretB y = ok at q hp1 hp0
          clear hc d42
          cases ok
          · have hr := Lib.hid (hp0.out rfl)
            clear hp0 hp1
            go_wp2_with (go_at_call 48; (with_reducible refine q.mono ?_); rintro e w6 ⟨rfl, rfl⟩)
            go_ret
            exact ⟨ret_int hr.out.symm, hbx.out _ hb⟩
          · have hp2 := Lib.hid (hp1.out rfl)
            clear hp0 hp1
            go_wp2_with (go_at_call 48; (with_reducible refine q.mono ?_); rintro e w6 ⟨rfl, rfl⟩)
            go_simp
            first | exact ⟨⟨k + 1, by omega, by go_num, hp2⟩, by simp [intOf]; omega⟩ | exact ⟨⟨k + 1, by omega, by go_num, hb, hp2⟩, by simp [intOf]; omega⟩
        · have hall : Hid (x.secs.all secretB = true) := Lib.hid (List.all_eq_true.2 (by have := hp.out; rwa [List.take_of_length_le (by omega)] at this))
          rw [if_pos ⟨h5.out, hall.out⟩] at hv2
          clear hall hp hno
          go_wp2_with fail
          clear d9 d42
          generalize hfl : x.faults = l at *
          go_loopw [6] (fun i wr => ∃ k : Nat, k ≤ l.length ∧ i = .int .i64 k ∧ Below w1.heap.size w1 wr ∧ Hid (slpsB none l = slpsB (prevS l k) (l.drop k))) (fun i _ => l.length - (intOf i).toNat)
          case atStart => exact ⟨0, Nat.zero_le _, rfl, hb, Lib.hid rfl⟩
          case round =>
            clear hb
            obtain ⟨k, hkn, rfl, hb, hp⟩ := hrel
            obtain ⟨d0, d1, d2, d3, d4, d5, d6, d7, d9, d42⟩ := KC.out _ hb
            clear d0 d1 d2 d3 d4 d5 d6 d7 d9
            by_cases hlt : k < l.length
            · obtain ⟨y, hy⟩ : ∃ y, Hid (l[k]? = some y) := ⟨_, Lib.hid (List.getElem?_eq_getElem hlt)⟩
              obtain ⟨b, off, hAf, hbb, hc⟩ := Cl_at (f := Slp.cl) (fun _ _ => rfl) ((hF.out).below hb) hlt hy.out
              have hst := Lib.hid (hp.out.trans (slps_step hy.out))
              have c0 := hc 0 (by omega)
              have c1 := hc 1 (by omega)
              have c2 := hc 2 (by omega)
              have c3 := hc 3 (by omega)
              simp only [Slp.cl, List.getElem?_cons_zero, List.getElem?_cons_succ, Nat.add_zero] at c0 c1 c2 c3
              have i0 : (0 : Int) ≤ (k : Int) := by omega
              have i1 : (k : Int) < (l.length : Int) := by omega
              rw [hAf] at d42
              have BY := Blk.new wr 71 #[.int .i64 y.run, .int .i64 y.leg, .int .i64 y.kind, .int .i64 y.at_] _ rfl
              have hb2 := bAl hb (.cells #[.int .i64 y.run, .int .i64 y.leg, .int .i64 y.kind, .int .i64 y.at_] 71)
              have hF2 := Lib.hid (hF.out.below hb2)
              have hm8 : wr.heap.size < (wr.alloc (.cells #[.int .i64 y.run, .int .i64 y.leg, .int .i64 y.kind, .int .i64 y.at_] 71)).heap.size := BY.lt
              clear hc hp
              go_upto_region 30 with fail
              clear d42 c0 c1 c2 c3
              generalize wr.alloc (.cells #[.int .i64 y.run, .int .i64 y.leg, .int .i64 y.kind, .int .i64 y.at_] 71) = wz at *
              generalize wr.heap.size = yb at *
              have KS : Hid (∀ w', Below wz.heap.size wz w' → w'.cell? ⟨yb, 0, none⟩ = some (.int .i64 y.run) ∧ w'.cell? ⟨yb, 1, none⟩ = some (.int .i64 y.leg)) := Lib.hid (fun w' h => ⟨(BY.below h BY.lt).cell 0, (BY.below h BY.lt).cell 1⟩)
              by_cases a1 : y.run < 0
              · have hr : Hid (v = 530) := Lib.hid (by
                  have e : slpB y = false := by unfold slpB; simp; omega
                  rw [← hv2.out, hst.out, e]
                  cases prevS l k <;> simp)
                clear hv2 hst
                refine wp_region_schN (g := 0) KS [(0, 1), (1, 2), (2, 1), (3, 1), (4, 1), (5, 1), (6, 1), (7, 1), (8, 1), (9, 1), (10, 1), (11, 1), (12, 1), (13, 1), (14, 1), (15, 1), (16, 1), (17, 1), (18, 1), (19, 1), (20, 0), (21, 1), (22, 1), (23, 1)] ?_
                simp only [pickS, List.getElem?_cons_zero, List.getElem?_cons_succ]
                refine wpSchedN_t ?_
                refine wpSchedN_r ?_
                refine wpSchedN_t ?_
                refine wpSchedN_t ?_
                refine wpSchedN_p ?_
                refine wpSchedN_p ?_
                refine wpSchedN_p ?_
                refine wpSchedN_p ?_
                refine wpSchedN_t ?_
                refine wpSchedN_t ?_
                refine wpSchedN_p ?_
                refine wpSchedN_p ?_
                refine wpSchedN_p ?_
                refine wpSchedN_p ?_
                refine wpSchedN_p ?_
                refine wpSchedN_p ?_
                refine wpSchedN_p ?_
                refine wpSchedN_p ?_
                refine wpSchedN_p ?_
                refine wpSchedN_p ?_
                refine wpSchedN_force (fun K hK => ?_)
                go_simp
                refine shut_go hK KS ?_
                clear hK K
                refine wpSchedN_p ?_
                refine wpSchedN_p ?_
                refine wpSchedN_t ?_
                refine anyN_end ?_
                refine NoPanic.normal ?_
                go_wp2_with fail
                go_ret
                exact ⟨ret_int hr.out.symm, hbx.out _ (bDr hb2)⟩
              by_cases a2 : y.leg < 0
              · have hr : Hid (v = 530) := Lib.hid (by
                  have e : slpB y = false := by unfold slpB; simp; omega
                  rw [← hv2.out, hst.out, e]
                  cases prevS l k <;> simp)
                clear hv2 hst
                refine wp_region_schN (g := 0) KS [(0, 1), (1, 2), (2, 1), (3, 1), (4, 1), (5, 1), (6, 2), (7, 1), (8, 1), (9, 1), (10, 1), (11, 1), (12, 1), (13, 1), (14, 1), (15, 1), (16, 1), (17, 1), (18, 1), (19, 1), (20, 0), (21, 1), (22, 1), (23, 1)] ?_
                simp only [pickS, List.getElem?_cons_zero, List.getElem?_cons_succ]
                refine wpSchedN_t ?_
                refine wpSchedN_r ?_
                refine wpSchedN_t ?_
                refine wpSchedN_t ?_
                refine wpSchedN_t ?_
                refine wpSchedN_t ?_
                refine wpSchedN_r ?_
                refine wpSchedN_t ?_
                refine wpSchedN_t ?_
                refine wpSchedN_t ?_
                refine wpSchedN_p ?_
                refine wpSchedN_p ?_
                refine wpSchedN_p ?_
                refine wpSchedN_p ?_
                refine wpSchedN_p ?_
                refine wpSchedN_p ?_
                refine wpSchedN_p ?_
                refine wpSchedN_p ?_
                refine wpSchedN_p ?_
                refine wpSchedN_p ?_
                refine wpSchedN_force (fun K hK => ?_)
                go_simp
                refine shut_go hK KS ?_
                clear hK K
                refine wpSchedN_p ?_
                refine wpSchedN_p ?_
                refine wpSchedN_t ?_
                refine anyN_end ?_
                refine NoPanic.normal ?_
                go_wp2_with fail
                go_ret
                exact ⟨ret_int hr.out.symm, hbx.out _ (bDr hb2)⟩
              have hyb : Hid (slpB y = true) := Lib.hid (by unfold slpB; simp; omega)
              rcases k with _ | j
              · have hp2 : Hid (slpsB none l = slpsB (prevS l (0 + 1)) (l.drop (0 + 1))) := Lib.hid (by
                  rw [hst.out]; simp only [prevS]; rw [hyb.out, Bool.true_and])
                clear hst hyb i0 i1
                refine wp_region_schN (g := 0) KS [(0, 1), (1, 2), (2, 1), (3, 1), (4, 1), (5, 1), (6, 2), (7, 1), (8, 1), (9, 1), (10, 1), (11, 1), (12, 1), (13, 1), (14, 1), (15, 1), (16, 1), (17, 1), (18, 1), (19, 1), (20, 0), (21, 1), (22, 1), (23, 1)] ?_
                simp only [pickS, List.getElem?_cons_zero, List.getElem?_cons_succ]
                refine wpSchedN_t ?_
                refine wpSchedN_r ?_
                refine wpSchedN_t ?_
                refine wpSchedN_t ?_
                refine wpSchedN_t ?_
                refine wpSchedN_t ?_
                refine wpSchedN_r ?_
                refine wpSchedN_t ?_
                refine wpSchedN_t ?_
                refine wpSchedN_t ?_
                refine wpSchedN_t ?_
                refine wpSchedN_t ?_
                refine wpSchedN_t ?_
                refine wpSchedN_p ?_
                refine wpSchedN_p ?_
                refine wpSchedN_p ?_
                refine wpSchedN_p ?_
                refine wpSchedN_p ?_
                refine wpSchedN_p ?_
                refine wpSchedN_p ?_
                refine wpSchedN_force (fun K hK => ?_)
                go_simp
                refine shut_go hK KS ?_
                clear hK K
                refine wpSchedN_p ?_
                refine wpSchedN_t ?_
                refine wpSchedN_t ?_
                refine anyN_end ?_
                refine NoPanic.normal ?_
                have hb5 := bDr hb2
                go_wp2_with fail
                (try go_simp)
                first | exact ⟨⟨0 + 1, by omega, by go_num, hp2⟩, by simp [intOf]; omega⟩ | exact ⟨⟨0 + 1, by omega, by go_num, hb5, hp2⟩, by simp [intOf]; omega⟩
              · obtain ⟨z, hz⟩ : ∃ z, Hid (l[j]? = some z) := ⟨_, Lib.hid (List.getElem?_eq_getElem (by omega))⟩
                have hst2 : Hid (slpsB none l = (decide (z.run < y.run ∨ z.run = y.run ∧ z.leg < y.leg) && slpsB (prevS l (j + 1 + 1)) (l.drop (j + 1 + 1)))) := Lib.hid (by
                  rw [hst.out, show prevS l (j + 1) = some z from hz.out]; simp only [hyb.out, Bool.true_and])
                clear hst hyb
                obtain ⟨b9, o9, e9, l9, L1⟩ := el_load (f := Slp.cl) (fun _ _ => rfl) hF2.out (show j < l.length by omega) hz.out Tryz.underlying71 rfl (by kernel_rfl) (hb2.size)
                rw [hAf] at e9
                injection e9 with e9
                injection e9 with e8 e9
                subst e8
                subst e9
                have q : Hid (∀ w', Calls Tryz.prog 49 #[.agg z.cl.toArray, .agg #[.int .i64 y.run, .int .i64 y.leg, .int .i64 y.kind, .int .i64 y.at_]] w' (Ret (.bool (decide (z.run < y.run ∨ z.run = y.run ∧ z.leg < y.leg))) w')) := Lib.hid (fun w' => ra_before z y w')
                have KT : Hid (∀ w', Below wz.heap.size wz w' → (Instr.loadAt 71 (.pointer (some ⟨b, off + j * 4, none⟩))).run Tryz.prog w' = .ok (.agg z.cl.toArray) w' ∧ (Instr.loadAt 71 (.pointer (some ⟨yb, 0, none⟩))).run Tryz.prog w' = .ok (.agg #[.int .i64 y.run, .int .i64 y.leg, .int .i64 y.kind, .int .i64 y.at_]) w' ∧ w'.cell? ⟨yb, 0, none⟩ = some (.int .i64 y.run) ∧ w'.cell? ⟨yb, 1, none⟩ = some (.int .i64 y.leg) ∧ w'.cell? ⟨W.heap.size, 42, none⟩ = some (.slice (some ⟨b, off, none⟩) l.length s.cf)) := Lib.hid (fun w' h => ⟨L1 w' h, load_blk (BY.below h BY.lt) Tryz.underlying71 rfl (by kernel_rfl), (KS.out w' h).1, (KS.out w' h).2, hAf ▸ (KC.out _ (bCall hb2 h)).2.2.2.2.2.2.2.2.2⟩)
                generalize decide (z.run < y.run ∨ z.run = y.run ∧ z.leg < y.leg) = ok at q hst2
                generalize z.cl.toArray = Z at *
                have j0 : (0 : Int) < (j : Int) + 1 := by omega
                have jw : IntKind.i64.wrap (j : Int) = (j : Int) := by rw [IntKind.wrap_i64]; omega
                have j1 : (0 : Int) ≤ (j : Int) := by omega
                have j2 : (j : Int) < (l.length : Int) := by omega
                clear KS L1 hz i0 i1
                cases ok
                · have hr : Hid (v = 530) := Lib.hid (by rw [← hv2.out, hst2.out]; rfl)
                  clear hst2 hv2
                  refine wp_region_schN (g := 0) KT [(0, 1), (1, 2), (2, 1), (3, 1), (4, 1), (5, 1), (6, 2), (7, 1), (8, 1), (9, 1), (10, 1), (11, 1), (12, 1), (13, 1), (14, 2), (15, 1), (16, 1), (17, 1), (18, 2), (19, 2), (20, 0), (21, 1), (22, 1), (23, 1)] ?_
                  simp only [pickS, List.getElem?_cons_zero, List.getElem?_cons_succ]
                  refine wpSchedN_t ?_
                  refine wpSchedN_r ?_
                  refine wpSchedN_t ?_
                  refine wpSchedN_t ?_
                  refine wpSchedN_t ?_
                  refine wpSchedN_t ?_
                  refine wpSchedN_r ?_
                  refine wpSchedN_t ?_
                  refine wpSchedN_t ?_
                  refine wpSchedN_t ?_
                  refine wpSchedN_t ?_
                  refine wpSchedN_t ?_
                  refine wpSchedN_t ?_
                  refine wpSchedN_t ?_
                  refine wpSchedN_r ?_
                  refine wpSchedN_t ?_
                  refine wpSchedN_t ?_
                  refine wpSchedN_t ?_
                  refine wpSchedN_r (v := ?vq2) (hv := ?hq2) ?_; case hq2 => (intro w hSw; (first | refine (exec_load rfl rfl hSw).trans ?_ | refine (exec_load rfl rfl hSw.1).trans ?_ | refine (exec_load rfl rfl hSw.2.1).trans ?_ | refine (exec_load rfl rfl hSw.2.2.1).trans ?_ | refine (exec_load rfl rfl hSw.2).trans ?_ | refine (exec_load rfl rfl hSw.2.2).trans ?_); with_reducible rfl)
                  refine wpSchedN_r (v := ?vq3) (hv := ?hq3) ?_; case hq3 => (intro w hSw; (first | refine (exec_load rfl rfl hSw).trans ?_ | refine (exec_load rfl rfl hSw.1).trans ?_ | refine (exec_load rfl rfl hSw.2.1).trans ?_ | refine (exec_load rfl rfl hSw.2.2.1).trans ?_ | refine (exec_load rfl rfl hSw.2).trans ?_ | refine (exec_load rfl rfl hSw.2.2).trans ?_); with_reducible rfl)
                  refine wpSchedN_force (fun K hK => ?_)
                  go_simp; (first | (go_at_call 49; (with_reducible refine (q.out _).mono ?_); rintro e w6 ⟨rfl, b6⟩; have B6 : Below wz.heap.size wz w6 := bCall (bDr (bRefl _)) b6) | skip)
                  refine shut_go hK KT ?_
                  clear hK K
                  refine wpSchedN_t ?_
                  refine wpSchedN_t ?_
                  refine wpSchedN_t ?_
                  refine anyN_end ?_
                  refine NoPanic.normal ?_
                  go_wp2_with fail
                  go_ret
                  exact ⟨ret_int hr.out.symm, hbx.out _ (bCall hb2 B6)⟩
                · have hp2 : Hid (slpsB none l = slpsB (prevS l (j + 1 + 1)) (l.drop (j + 1 + 1))) := Lib.hid (by rw [hst2.out, Bool.true_and])
                  clear hst2
                  refine wp_region_schN (g := 0) KT [(0, 1), (1, 2), (2, 1), (3, 1), (4, 1), (5, 1), (6, 2), (7, 1), (8, 1), (9, 1), (10, 1), (11, 1), (12, 1), (13, 1), (14, 2), (15, 1), (16, 1), (17, 1), (18, 2), (19, 2), (20, 0), (21, 1), (22, 1), (23, 1)] ?_
                  simp only [pickS, List.getElem?_cons_zero, List.getElem?_cons_succ]
                  refine wpSchedN_t ?_
                  refine wpSchedN_r ?_
                  refine wpSchedN_t ?_
                  refine wpSchedN_t ?_
                  refine wpSchedN_t ?_
                  refine wpSchedN_t ?_
                  refine wpSchedN_r ?_
                  refine wpSchedN_t ?_
                  refine wpSchedN_t ?_
                  refine wpSchedN_t ?_
                  refine wpSchedN_t ?_
                  refine wpSchedN_t ?_
                  refine wpSchedN_t ?_
                  refine wpSchedN_t ?_
                  refine wpSchedN_r ?_
                  refine wpSchedN_t ?_
                  refine wpSchedN_t ?_
                  refine wpSchedN_t ?_
                  refine wpSchedN_r (v := ?vq4) (hv := ?hq4) ?_; case hq4 => (intro w hSw; (first | refine (exec_load rfl rfl hSw).trans ?_ | refine (exec_load rfl rfl hSw.1).trans ?_ | refine (exec_load rfl rfl hSw.2.1).trans ?_ | refine (exec_load rfl rfl hSw.2.2.1).trans ?_ | refine (exec_load rfl rfl hSw.2).trans ?_ | refine (exec_load rfl rfl hSw.2.2).trans ?_); with_reducible rfl)
                  refine wpSchedN_r (v := ?vq5) (hv := ?hq5) ?_; case hq5 => (intro w hSw; (first | refine (exec_load rfl rfl hSw).trans ?_ | refine (exec_load rfl rfl hSw.1).trans ?_ | refine (exec_load rfl rfl hSw.2.1).trans ?_ | refine (exec_load rfl rfl hSw.2.2.1).trans ?_ | refine (exec_load rfl rfl hSw.2).trans ?_ | refine (exec_load rfl rfl hSw.2.2).trans ?_); with_reducible rfl)
                  refine wpSchedN_force (fun K hK => ?_)
                  go_simp; (first | (go_at_call 49; (with_reducible refine (q.out _).mono ?_); rintro e w6 ⟨rfl, b6⟩; have B6 : Below wz.heap.size wz w6 := bCall (bDr (bRefl _)) b6) | skip)
                  refine shut_go hK KT ?_
                  clear hK K
                  refine wpSchedN_t ?_
                  refine wpSchedN_t ?_
                  refine wpSchedN_t ?_
                  refine anyN_end ?_
                  refine NoPanic.normal ?_
                  have hb5 := bCall hb2 B6
                  go_wp2_with fail
                  (try go_simp)
                  first | exact ⟨⟨j + 1 + 1, by omega, by go_num, hp2⟩, by simp [intOf]; omega⟩ | exact ⟨⟨j + 1 + 1, by omega, by go_num, hb5, hp2⟩, by simp [intOf]; omega⟩
            · have hr : Hid (v = 0) := Lib.hid (by rw [← hv2.out, hp.out, List.drop_of_length_le (by omega)]; cases prevS l k <;> rfl)
              clear hp hv2
              go_wp2_with fail
              go_ret
              exact ⟨ret_int hr.out.symm, hbx.out _ hb⟩
end Go.Proofs.YtmbopkcmbiommaaGreatDoor

/-
  Plain: how the reference reads and writes numbers.
-/
namespace Go.Proofs.YtmbopkcmbiommaaGreatDoor
open Go

/-- What the reference reckons of a word's digits. -/
def magN : Nat → By → Nat
  | n, [] => n
  | n, c :: r => magN (if 48 ≤ c.toNat ∧ c.toNat ≤ 57 then 10 * n + (c.toNat - 48) else n) r
def refN (s : By) : Int := if s.head? = some 45 then -(magN 0 (s.take 15) : Int) else (magN 0 (s.take 15) : Int)
def refOk (s : By) : Bool := decide (s.length ≤ 15) && (okN (refN s) && decide (itB (refN s) = s))
theorem magN_app : ∀ (a b : By) (n : Nat), magN n (a ++ b) = magN (magN n a) b
  | [], _, _ => rfl
  | _ :: a, b, _ => magN_app a b _
theorem magN_dig {n d : Nat} (h : d < 10) : magN n [digC d] = 10 * n + d := by
  show (if 48 ≤ (digC d).toNat ∧ (digC d).toNat ≤ 57 then 10 * n + ((digC d).toNat - 48) else n) = _
  rw [digC_nat h, if_pos (by omega)]
  omega
theorem magN_decF : ∀ (f u : Nat), u < 10 ^ (f + 1) → magN 0 (decF f u) = u
  | 0, u, h => by
    have h' : u < 10 := by simpa using h
    unfold decF
    rw [Nat.mod_eq_of_lt h', magN_dig h']
    omega
  | f + 1, u, h => by
    unfold decF
    split
    · rename_i h1
      rw [magN_dig h1]
      omega
    · rw [magN_app, magN_decF f (u / 10) (by rw [Nat.pow_succ] at h; omega), magN_dig (Nat.mod_lt _ (by omega))]
      omega
theorem decF_lenH : ∀ (f u k : Nat), u < 10 ^ (k + 1) → (decF f u).length ≤ k + 1
  | 0, u, k, _ => by unfold decF; simp
  | f + 1, u, k, h => by
    unfold decF
    split
    · simp
    · rename_i h1
      cases k with
      | zero => simp at h; omega
      | succ k =>
        rw [List.length_append, List.length_singleton]
        have := decF_lenH f (u / 10) k (by rw [Nat.pow_succ] at h; omega)
        omega
theorem head_dig {f u : Nat} {c : UInt8} (h : (decF f u).head? = some c) : c ≠ 45 := by
  have := decF_dig f u c (List.mem_of_head? h)
  unfold isD at this
  intro e
  subst e
  exact absurd this.1 (by decide)
theorem refN_it {n : Int} (h : okN n = true) : refN (itB n) = n ∧ (itB n).length ≤ 15 := by
  rw [okN_iff] at h
  have hp : (10 : Nat) ^ (12 + 1) = 10000000000000 := by decide
  have hq : (10 : Nat) ^ (20 + 1) = 1000000000000000000000 := by decide
  unfold itB
  split
  · have hl := decF_lenH 20 n.natAbs 12 (by omega)
    refine ⟨?_, by simp; omega⟩
    unfold refN
    rw [if_pos (show (45 :: decF 20 n.natAbs).head? = some 45 from rfl), List.take_of_length_le (by simp; omega)]
    show -((magN (if 48 ≤ (45 : UInt8).toNat ∧ (45 : UInt8).toNat ≤ 57 then 10 * 0 + ((45 : UInt8).toNat - 48) else 0) (decF 20 n.natAbs) : Nat) : Int) = n
    rw [if_neg (by decide), magN_decF 20 _ (by omega)]
    omega
  · have hl := decF_lenH 20 n.toNat 12 (by omega)
    refine ⟨?_, by omega⟩
    unfold refN
    rw [if_neg (fun e => head_dig e rfl), List.take_of_length_le (by omega), magN_decF 20 _ (by omega)]
    omega
/-- The reference reads the same words as numbers. -/
theorem refOk_iff {s : By} : numO s = if refOk s = true then some (refN s) else none := by
  cases h : numO s with
  | some v =>
    obtain ⟨h1, h2⟩ := numO_some h
    obtain ⟨e1, e2⟩ := refN_it h1
    rw [h2] at e1 e2
    have : refOk s = true := by
      unfold refOk
      rw [e1, h1, h2]
      simp [e2]
    rw [if_pos this, e1]
  | none =>
    rw [if_neg]
    intro hr
    unfold refOk at hr
    simp only [Bool.and_eq_true, decide_eq_true_eq] at hr
    have := numO_it hr.2.1
    rw [hr.2.2, h] at this
    cases this
/-- A number is written digit by digit. -/
theorem itB_neg {n : Int} (h : n < 0) (h2 : -9223372036854775808 < n) : itB n = 45 :: itB (-n) := by
  unfold itB
  rw [if_pos h, if_neg (by omega), show n.natAbs = (-n).toNat by omega]
theorem itB_one {n : Int} (h : 0 ≤ n) (h2 : n < 10) : itB n = [digC n.toNat] := by
  unfold itB
  rw [if_neg (by omega)]
  show (if n.toNat < 10 then [digC n.toNat] else _) = _
  rw [if_pos (by omega)]
theorem decF_moreH : ∀ (f u : Nat), u < 10 ^ (f + 1) → decF (f + 1) u = decF f u
  | 0, u, h => by
    have h' : u < 10 := by simpa using h
    show (if u < 10 then [digC u] else _) = [digC (u % 10)]
    rw [if_pos h', Nat.mod_eq_of_lt h']
  | f + 1, u, h => by
    show (if u < 10 then [digC u] else decF (f + 1) (u / 10) ++ [digC (u % 10)]) = if u < 10 then [digC u] else decF f (u / 10) ++ [digC (u % 10)]
    rw [decF_moreH f (u / 10) (by rw [Nat.pow_succ] at h; omega)]
theorem itB_ten {n : Int} (h : 10 ≤ n) (h2 : n < 9223372036854775808) : itB n = itB (n / 10) ++ itB (n % 10) := by
  have hq : (10 : Nat) ^ (19 + 1) = 100000000000000000000 := by decide
  rw [itB_one (n := n % 10) (by omega) (by omega)]
  unfold itB
  rw [if_neg (by omega), if_neg (by omega)]
  show (if n.toNat < 10 then _ else decF 19 (n.toNat / 10) ++ [digC (n.toNat % 10)]) = _
  rw [if_neg (by omega), show (n / 10).toNat = n.toNat / 10 by omega, show (n % 10).toNat = n.toNat % 10 by omega, decF_moreH 19 _ (by omega)]
end Go.Proofs.YtmbopkcmbiommaaGreatDoor

/-
  The reference's numbers in reports; walked.
-/
namespace Go.Proofs.YtmbopkcmbiommaaGreatDoor
open Go Go.RowKit

theorem cat_by (a b : By) : (⟨a.toArray⟩ ++ ⟨b.toArray⟩ : ByteArray) = ⟨(a ++ b).toArray⟩ := by
  apply ByteArray.ext
  rw [ByteArray.data_append]
  simp
theorem ret_str {a b : ByteArray} (h : a = b) : Ending.returned (.string a) = .returned (.string b) := by rw [h]
theorem rp_in (n : Int) (W : World) : Calls Tryz.prog 22 #[.int .i64 n] W (Same (.bool (okN n)) W) := by
  unfold okN
  by_cases h1 : -1099511627776 ≤ n <;> by_cases h2 : n ≤ 1099511627776
  all_goals
    go_enter Tryz.func22, Tryz.ntmps22
    go_wp2_with fail
    go_ret
    exact ⟨by simp_all, rfl⟩
theorem rp_flag (b : Bool) (W : World) : Calls Tryz.prog 26 #[.bool b] W (Same (.int .i64 (flagI b)) W) := by
  cases b
  all_goals
    go_enter Tryz.func26, Tryz.ntmps26
    go_wp2_with fail
    go_ret
    exact ⟨rfl, rfl⟩
theorem itB_le {n : Int} (h : okN n = true) : (itB n).length ≤ 15 := (refN_it h).2
set_option maxRecDepth 100000 in
theorem ra_num0 : ∀ (m : Nat) (n : Int), 0 ≤ n → n ≤ 1099511627776 → n.toNat = m → ∀ W : World, Calls Tryz.prog 23 #[.int .i64 n] W (Ret (.string ⟨(itB n).toArray⟩) W) := by
  intro m
  induction m using Nat.strongRecOn with
  | _ m ih =>
    intro n h0 h1 hm W
    have g1 : ¬ n < 0 := by omega
    by_cases h10 : n < 10
    · have e1 : IntKind.i64.wrap (48 + n) = 48 + n := by rw [IntKind.wrap_i64]; omega
      have e2 : IntKind.u8.wrap (48 + n) = 48 + n := by rw [IntKind.wrap_u8]; omega
      go_enter Tryz.func23, Tryz.ntmps23
      have hcv : (convert 73 9 (.slice (some ⟨W.heap.size, 0, none⟩) 1 1)).run Tryz.prog (W.alloc (.cells #[.int .u8 (48 + n)] 5)) = .ok (.string ⟨(itB n).toArray⟩) (W.alloc (.cells #[.int .u8 (48 + n)] 5)) := by
        rw [itB_one h0 h10]
        refine run_convert_bytes_back (P := Tryz.prog) _ 73 9 5 ⟨W.heap.size, 0, none⟩ 1 [digC n.toNat] Tryz.underlying73 Tryz.underlying5 Tryz.underlying9 (fun j hj => ?_)
        obtain rfl : j = 0 := by simpa using hj
        have := (Blk.new W 5 #[.int .u8 (48 + n)] _ rfl).cell 0
        refine this.trans ?_
        show some (Value.int .u8 (48 + n)) = some (Value.int .u8 ((digC n.toNat).toNat : Int))
        rw [digC_nat (by omega), show ((48 + n.toNat : Nat) : Int) = 48 + n by omega]
      have hb := bAl (bRefl W) (.cells #[.int .u8 (48 + n)] 5)
      generalize (itB n).toArray = T at *
      go_wp2_with fail
      go_ret
      exact ⟨rfl, hb⟩
    · have q1 := ih (n / 10).toNat (by omega) (n / 10) (by omega) (by omega) rfl
      have q2 := ih (n % 10).toNat (by omega) (n % 10) (by omega) (by omega) rfl
      have e1 : n.tdiv 10 = n / 10 := Int.tdiv_eq_ediv_of_nonneg h0
      have e2 : n.tmod 10 = n % 10 := Int.tmod_eq_emod_of_nonneg h0
      have e3 : IntKind.i64.wrap (n / 10) = n / 10 := by rw [IntKind.wrap_i64]; omega
      have e4 : IntKind.i64.wrap (n % 10) = n % 10 := by rw [IntKind.wrap_i64]; omega
      go_enter Tryz.func23, Tryz.ntmps23
      have hlen : ¬ 9223372036854775807 < (itB (n / 10)).length + (itB (n % 10)).length := by
        have := itB_len (n := n / 10) (okN_iff.2 (by omega))
        have := itB_len (n := n % 10) (okN_iff.2 (by omega))
        omega
      go_wp2_with (go_at_call 23; first | ((with_reducible refine (q1 _).mono ?_); rintro e w1 ⟨rfl, b1⟩) | ((with_reducible refine (q2 _).mono ?_); rintro e w2 ⟨rfl, b2⟩))
      go_ret
      exact ⟨ret_str (by rw [cat_by, ← itB_ten (by omega) (by omega)]), bCall b1 b2⟩
set_option maxRecDepth 100000 in
theorem ra_num (n : Int) (h : okN n = true) (W : World) : Calls Tryz.prog 23 #[.int .i64 n] W (Ret (.string ⟨(itB n).toArray⟩) W) := by
  have h1 := okN_iff.1 h
  by_cases h0 : 0 ≤ n
  · exact ra_num0 _ n h0 h1.2 rfl W
  · have q1 := ra_num0 _ (-n) (by omega) (by omega) rfl W
    have g1 : n < 0 := by omega
    have e1 : IntKind.i64.wrap (-n) = -n := by rw [IntKind.wrap_i64]; omega
    have hlen : ¬ 9223372036854775807 < 1 + (itB (-n)).length := by
      have := itB_len (n := -n) (okN_iff.2 (by omega))
      omega
    go_enter Tryz.func23, Tryz.ntmps23
    go_wp2_with (go_at_call 23; (with_reducible refine q1.mono ?_); rintro e w1 ⟨rfl, b1⟩)
    go_ret
    refine ⟨ret_str ?_, b1⟩
    rw [itB_neg g1 (by omega)]
    exact cat_by [45] (itB (-n))
end Go.Proofs.YtmbopkcmbiommaaGreatDoor

/-
  The reference's lines of reports; walked.
-/
namespace Go.Proofs.YtmbopkcmbiommaaGreatDoor
open Go Go.RowKit

theorem numsT_takeR {l : List Int} {k : Nat} {n : Int} (h : l[k]? = some n) : numsT (l.take (k + 1)) = numsT (l.take k) ++ numT n := by
  rw [take_moreR h]
  unfold numsT
  rw [List.flatMap_append]
  simp
set_option maxRecDepth 100000 in
set_option maxHeartbeats 4000000 in
theorem rp_line (nm : By) (A : Option Addr) (c : Nat) (l : List Int) (W : World) (r : Rd W W.heap.size 1 A l.length (ints l)) (hn : l.length ≤ 10000000) (hm : nm.length ≤ 1000) :
    Calls Tryz.prog 50 #[.string ⟨nm.toArray⟩, .slice A l.length c] W (Ret (.tuple #[.string ⟨(if l.all okN = true then nm ++ numsT l ++ [10] else []).toArray⟩, .bool (l.all okN)]) W) := by
  obtain ⟨T, hT⟩ : ∃ T : By, Hid ((if l.all okN = true then nm ++ numsT l ++ [10] else []) = T) := ⟨_, Lib.hid rfl⟩
  rw [hT.out]
  obtain ⟨ok, hok⟩ : ∃ ok, Hid (l.all okN = ok) := ⟨_, Lib.hid rfl⟩
  rw [hok.out]
  replace hT : Hid (T = if ok = true then nm ++ numsT l ++ [10] else []) := Lib.hid (by rw [← hT.out, hok.out])
  go_enter Tryz.func50, Tryz.ntmps50
  go_wp2_with fail
  go_loopw [0, 6] (fun s i wr => ∃ (k : Nat) (cur : By), k ≤ l.length ∧ i = .int .i64 k ∧ s = Value.string (ByteArray.mk cur.toArray) ∧ Below W.heap.size W wr ∧ Hid (cur = nm ++ numsT (l.take k) ∧ (l.take k).all okN = true)) (fun _ i _ => l.length - (intOf i).toNat)
  case atStart => exact ⟨0, nm, Nat.zero_le _, rfl, rfl, bRefl W, Lib.hid ⟨by unfold numsT; simp, rfl⟩⟩
  case round =>
    obtain ⟨k, cur, hkn, rfl, rfl, hb, hp⟩ := hrel
    have hcl : cur.length ≤ 1000 + 15 * k := by
      have h1 := numsT_fit hp.out.2
      rw [hp.out.1, List.length_append]
      rw [List.length_take] at h1
      omega
    by_cases hlt : k < l.length
    · obtain ⟨n, hx⟩ : ∃ y, Hid (l[k]? = some y) := ⟨_, Lib.hid (List.getElem?_eq_getElem hlt)⟩
      obtain ⟨b1, o1, rfl, l1, hc⟩ := (r.below hb).2 (by omega)
      have ck := hc k _ (ints_at hx.out)
      have i0 : (0 : Int) ≤ (k : Int) := by omega
      have i1 : (k : Int) < (l.length : Int) := by omega
      have q1 := rp_in n wr
      clear hc
      cases hon : okN n with
      | false =>
        rw [hon] at q1
        have hr : Hid (ok = false) := Lib.hid (by
          rw [← hok.out, ← Bool.not_eq_true]
          intro h
          have := List.all_eq_true.1 h n (List.mem_of_getElem? hx.out)
          rw [hon] at this
          cases this)
        obtain rfl := hr.out
        obtain rfl : T = [] := hT.out
        clear hon
        go_wp2_with (go_at_call 22; (with_reducible refine q1.mono ?_); rintro e w6 ⟨rfl, rfl⟩)
        go_ret2
        exact ⟨rfl, hb⟩
      | true =>
        rw [hon] at q1
        have q2 := ra_num n hon wr
        have h14 := itB_len hon
        have hnx : Hid (cur ++ numT n = nm ++ numsT (l.take (k + 1)) ∧ (l.take (k + 1)).all okN = true) := Lib.hid ⟨by rw [numsT_takeR hx.out, hp.out.1, List.append_assoc], List.all_eq_true.2 (all_on (p := okN) (List.all_eq_true.1 hp.out.2) hx.out hon)⟩
        have e9 : (⟨cur.toArray⟩ ++ ⟨#[32]⟩ ++ ⟨(itB n).toArray⟩ : ByteArray) = ⟨(cur ++ numT n).toArray⟩ := by
          rw [show (⟨#[32]⟩ : ByteArray) = ⟨([32] : By).toArray⟩ from rfl, cat_by, cat_by]
          show _ = (⟨(cur ++ 32 :: itB n).toArray⟩ : ByteArray)
          simp
        have h1 : ¬ 9223372036854775807 < cur.length + 1 := by omega
        have h2 : ¬ 9223372036854775807 < cur.length + 1 + (itB n).length := by omega
        clear hon hp
        go_wp2_with (first | (go_at_call 22; (with_reducible refine q1.mono ?_); rintro e w6 ⟨rfl, rfl⟩) | (go_at_call 23; (with_reducible refine q2.mono ?_); rintro e w7 ⟨rfl, b7⟩))
        exact ⟨⟨k + 1, cur ++ numT n, by omega, by go_num, rfl, bCall hb b7, hnx⟩, by simp [intOf]; omega⟩
    · have hr : Hid (ok = true ∧ cur = nm ++ numsT l) := Lib.hid (by
        have := hp.out
        rw [List.take_of_length_le (by omega)] at this
        exact ⟨hok.out.symm.trans this.2, this.1⟩)
      obtain ⟨rfl, hcur⟩ := hr.out
      have hT2 : T = nm ++ numsT l ++ [10] := hT.out
      have h1 : ¬ 9223372036854775807 < cur.length + 1 := by omega
      have e9 : (⟨cur.toArray⟩ ++ ⟨#[10]⟩ : ByteArray) = ⟨T.toArray⟩ := by
        rw [show (⟨#[10]⟩ : ByteArray) = ⟨([10] : By).toArray⟩ from rfl, cat_by, hT2, hcur]
      clear hp hcur hr hT2
      go_wp2_with fail
      go_ret2
      exact ⟨rfl, hb⟩
theorem below_setRowP {B g : Nat} {w w' : World} (h : Below B w w') (hg : B ≤ g) (X : Array Value) : Below B w (w'.setRow g X) :=
  ⟨h.os, h.tape, h.output, by have := h.size; simpa [World.setRow] using this, fun k hk => (setRow_other w' g k X (by omega)).trans (h.block k hk)⟩
theorem text_info : (Tryz.prog.info? 83).map (·.size) = some 2 := by kernel_rfl
theorem two_one (a : ByteArray) (b : Bool) : ∀ v ∈ (#[.string a, .bool b] : Array Value).toList, v.oneCell' = true := by
  intro v hv
  simp only [List.mem_cons, List.not_mem_nil, or_false] at hv
  rcases hv with rfl | rfl <;> rfl
set_option maxRecDepth 100000 in
set_option maxHeartbeats 4000000 in
theorem rp_put (t nm : By) (bd : Bool) (A : Option Addr) (c : Nat) (l : List Int) (W : World) (r : Rd W W.heap.size 1 A l.length (ints l)) (hn : l.length ≤ 10000000) (hm : nm.length ≤ 1000) (ht : t.length ≤ 1000000000) :
    Calls Tryz.prog 25 #[.agg #[.string ⟨t.toArray⟩, .bool bd], .string ⟨nm.toArray⟩, .slice A l.length c] W (Ret (.agg #[.string ⟨(t ++ (if l.all okN = true then nm ++ numsT l ++ [10] else [])).toArray⟩, .bool (bd || !(l.all okN))]) W) := by
  have q := rp_line nm A c l
  have hTl : (if l.all okN = true then nm ++ numsT l ++ [10] else []).length ≤ 1001 + 15 * l.length := by
    by_cases h : l.all okN = true
    · rw [if_pos h]
      have := numsT_fit h
      simp only [List.length_append, List.length_cons, List.length_nil]
      omega
    · rw [if_neg h]
      exact Nat.zero_le _
  obtain ⟨T, hT⟩ : ∃ T : By, Hid ((if l.all okN = true then nm ++ numsT l ++ [10] else []) = T) := ⟨_, Lib.hid rfl⟩
  rw [hT.out] at q hTl ⊢
  generalize l.all okN = ok at q ⊢
  have hb := bAl (bAl (bRefl W) (.cells #[.string ⟨t.toArray⟩, .bool bd] 83)) (.cells #[.string ⟨#[]⟩, .bool false] 83)
  have B0 := (Blk.new W 83 #[.string ⟨t.toArray⟩, .bool bd] _ rfl).alloc (.cells #[.string ⟨#[]⟩, .bool false] 83)
  have B1 := Blk.new (W.alloc (.cells #[.string ⟨t.toArray⟩, .bool bd] 83)) 83 #[.string ⟨#[]⟩, .bool false] (W.heap.size + 1) (by simp)
  have q1 := q _ ((r.below hb).more hb.size) hn hm
  clear q hT r
  go_enter Tryz.func25, Tryz.ntmps25
  go_upto_region 1 with fail
  generalize (W.alloc (.cells #[.string ⟨t.toArray⟩, .bool bd] 83)).alloc (.cells #[.string ⟨#[]⟩, .bool false] 83) = w1 at *
  go_upto_region 2 with (go_at_call 50; (with_reducible refine q1.mono ?_); rintro e w2 ⟨rfl, b2⟩)
  have hb2 := bCall hb b2
  have B02 := B0.below b2 B0.lt
  have B12 := B1.below b2 B1.lt
  clear q1 hb b2 B0 B1
  have c0 := B02.cell 0
  have c1 := B02.cell 1
  have e9 : (⟨t.toArray⟩ ++ ⟨T.toArray⟩ : ByteArray) = ⟨(t ++ T).toArray⟩ := cat_by t T
  have h1 : ¬ 9223372036854775807 < t.length + T.length := by omega
  have hok : ∃ b9, Hid ((bd || !ok) = b9) := ⟨_, Lib.hid rfl⟩
  obtain ⟨b9, hb9⟩ := hok
  rw [hb9.out]
  have LS := store_whole (P := Tryz.prog) (ty := 83) (X := #[.string ⟨(t ++ T).toArray⟩, .bool b9]) B12 text_info rfl (two_one _ _)
  have B3 := B12.row #[.string ⟨(t ++ T).toArray⟩, .bool b9]
  have hb3 := below_setRowP hb2 (show W.heap.size ≤ W.heap.size + 1 by omega) #[.string ⟨(t ++ T).toArray⟩, .bool b9]
  cases bd with
  | false =>
    cases ok with
    | false =>
      obtain rfl : true = b9 := hb9.out
      apply wp_region_lit
      iterate 31 go_step
      refine wpList_storeG (by rfl) (by rfl) (by rfl) (by rfl) LS ?_
      simp only [Act.put]
      clear LS c0 c1
      go_wp2_with fail
      exact bodyPost_ret (results_cell_row rfl _ _ (W.heap.size + 1) 83 _ (0, 0) _ rfl B3 Tryz.underlying83 rfl text_info) rfl ⟨rfl, hb3⟩
    | true =>
      obtain rfl : false = b9 := hb9.out
      apply wp_region_lit
      iterate 31 go_step
      refine wpList_storeG (by rfl) (by rfl) (by rfl) (by rfl) LS ?_
      simp only [Act.put]
      clear LS c0 c1
      go_wp2_with fail
      exact bodyPost_ret (results_cell_row rfl _ _ (W.heap.size + 1) 83 _ (0, 0) _ rfl B3 Tryz.underlying83 rfl text_info) rfl ⟨rfl, hb3⟩
  | true =>
    obtain rfl : true = b9 := hb9.out
    apply wp_region_lit
    iterate 31 go_step
    refine wpList_storeG (by rfl) (by rfl) (by rfl) (by rfl) LS ?_
    simp only [Act.put]
    clear LS c0 c1
    go_wp2_with fail
    exact bodyPost_ret (results_cell_row rfl _ _ (W.heap.size + 1) 83 _ (0, 0) _ rfl B3 Tryz.underlying83 rfl text_info) rfl ⟨rfl, hb3⟩
end Go.Proofs.YtmbopkcmbiommaaGreatDoor

/-
  The reference's seeds in reports; walked.
-/
namespace Go.Proofs.YtmbopkcmbiommaaGreatDoor
open Go Go.RowKit

theorem hex_cut (n : Nat) (h : n < 16) : ({ data := #[48, 49, 50, 51, 52, 53, 54, 55, 56, 57, 97, 98, 99, 100, 101, 102] } : ByteArray).extract n (n + 1) = ⟨#[hexC n]⟩ := by
  have : n = 0 ∨ n = 1 ∨ n = 2 ∨ n = 3 ∨ n = 4 ∨ n = 5 ∨ n = 6 ∨ n = 7 ∨ n = 8 ∨ n = 9 ∨ n = 10 ∨ n = 11 ∨ n = 12 ∨ n = 13 ∨ n = 14 ∨ n = 15 := by omega
  rcases this with rfl | rfl | rfl | rfl | rfl | rfl | rfl | rfl | rfl | rfl | rfl | rfl | rfl | rfl | rfl | rfl <;> rfl
set_option maxRecDepth 100000 in
set_option maxHeartbeats 4000000 in
theorem rp_seed (d : List Nat) (W : World) (hd : d.length = 32) (hby : ∀ x ∈ d, x < 256) :
    Calls Tryz.prog 24 #[.agg (byts d).toArray] W (Ret (.string ⟨(hexT d).toArray⟩) W) := by
  have BT := Blk.new W 32 (byts d).toArray _ rfl
  have hb := bAl (bRefl W) (.cells (byts d).toArray 32)
  have hds : Hid ((byts d).toArray.size = 32) := Lib.hid (by rw [List.size_toArray, byts_length, hd])
  generalize hY : (byts d).toArray = Y at *
  go_enter Tryz.func24, Tryz.ntmps24
  go_wp2_with fail
  generalize W.alloc (.cells Y 32) = w1 at *
  go_loopw [3, 4] (fun s i wr => ∃ (k : Nat) (cur : By), k ≤ 32 ∧ i = .int .i64 k ∧ s = Value.string (ByteArray.mk cur.toArray) ∧ Below W.heap.size W wr ∧ Blk wr W.heap.size 32 Y ∧ Hid (cur = hexT (d.take k))) (fun _ i _ => 32 - (intOf i).toNat)
  case atStart => exact ⟨0, [], Nat.zero_le _, rfl, rfl, hb, BT, Lib.hid rfl⟩
  case round =>
    clear hb BT
    obtain ⟨k, cur, hkn, rfl, rfl, hb, BT, hp⟩ := hrel
    by_cases hlt : k < 32
    · obtain ⟨n, hx⟩ : ∃ y, Hid (d[k]? = some y) := ⟨_, Lib.hid (List.getElem?_eq_getElem (by omega))⟩
      have h256 := hby n (List.mem_of_getElem? hx.out)
      have i0 : (0 : Int) ≤ (k : Int) := by omega
      have i1 : (k : Int) < 32 := by omega
      have e1 : (n : Int).tdiv 16 = ((n / 16 : Nat) : Int) := by rw [Int.tdiv_eq_ediv_of_nonneg (by omega)]; omega
      have e2 : (n : Int).tmod 16 = ((n % 16 : Nat) : Int) := by rw [Int.tmod_eq_emod_of_nonneg (by omega)]; omega
      have n1 : n / 16 < 16 := by omega
      have n2 : n % 16 < 16 := by omega
      have e3 : IntKind.u8.wrap ((n / 16 : Nat) : Int) = ((n / 16 : Nat) : Int) := by rw [IntKind.wrap_u8]; omega
      have e4 : IntKind.u8.wrap ((n % 16 : Nat) : Int) = ((n % 16 : Nat) : Int) := by rw [IntKind.wrap_u8]; omega
      have e5 : IntKind.u8.wrap (((n / 16 : Nat) : Int) + 1) = ((n / 16 : Nat) : Int) + 1 := by rw [IntKind.wrap_u8]; omega
      have e6 : IntKind.u8.wrap (((n % 16 : Nat) : Int) + 1) = ((n % 16 : Nat) : Int) + 1 := by rw [IntKind.wrap_u8]; omega
      have hcl : cur.length ≤ 100 := by
        rw [hp.out]
        have : (hexT (d.take k)).length = 2 * (d.take k).length := by
          unfold hexT
          generalize d.take k = l
          induction l with
          | nil => rfl
          | cons a l ih => rw [List.flatMap_cons, List.length_append, ih, List.length_cons]; simp; omega
        rw [this, List.length_take]
        omega
      have hnx : Hid (cur ++ [hexC (n / 16), hexC (n % 16)] = hexT (d.take (k + 1))) := Lib.hid (by rw [hexT_take hx.out, hp.out])
      generalize n / 16 = p at *
      generalize n % 16 = q at *
      have e7 := hex_cut p n1
      have e8 := hex_cut q n2
      have j1 : (0 : Int) ≤ (p : Int) + 1 := by omega
      have j2 : (p : Int) + 1 ≤ 16 := by omega
      have j3 : (p : Int) ≤ (p : Int) + 1 := by omega
      have j4 : (0 : Int) ≤ (q : Int) + 1 := by omega
      have j5 : (q : Int) + 1 ≤ 16 := by omega
      have j6 : (q : Int) ≤ (q : Int) + 1 := by omega
      have h1 : ¬ 9223372036854775807 < cur.length + 1 := by omega
      have h2 : ¬ 9223372036854775807 < cur.length + 1 + 1 := by omega
      have e9 : (⟨cur.toArray⟩ ++ ⟨#[hexC p]⟩ ++ ⟨#[hexC q]⟩ : ByteArray) = ⟨(cur ++ [hexC p, hexC q]).toArray⟩ := by
        rw [show (⟨#[hexC p]⟩ : ByteArray) = ⟨([hexC p] : By).toArray⟩ from rfl, show (⟨#[hexC q]⟩ : ByteArray) = ⟨([hexC q] : By).toArray⟩ from rfl, cat_by, cat_by]
        simp
      have KS : Hid (∀ w', Below wr.heap.size wr w' → w'.cell? ⟨W.heap.size, k, none⟩ = some (.int .u8 n)) := Lib.hid (fun w' h => by
        rw [(BT.below h BT.lt).cell k, ← hY, List.getElem?_toArray]
        exact byts_at hx.out)
      go_upto_region 5 with fail
      refine wp_region_schN (g := 0) KS [(0, 1), (1, 1), (2, 1), (3, 2), (4, 1), (5, 1), (6, 1), (7, 2), (8, 1), (9, 1), (10, 1), (11, 1), (12, 1), (13, 1), (14, 2), (15, 1), (16, 1), (17, 1), (18, 2), (19, 1), (20, 1), (21, 1), (22, 1), (23, 1)] ?_
      simp only [pickS, List.getElem?_cons_zero, List.getElem?_cons_succ]
      refine wpSchedN_t ?_
      refine wpSchedN_t ?_
      refine wpSchedN_t ?_
      refine wpSchedN_r ?_
      refine wpSchedN_t ?_
      refine wpSchedN_t ?_
      refine wpSchedN_t ?_
      refine wpSchedN_r ?_
      refine wpSchedN_t ?_
      refine wpSchedN_t ?_
      refine wpSchedN_t ?_
      refine wpSchedN_t ?_
      refine wpSchedN_t ?_
      refine wpSchedN_t ?_
      refine wpSchedN_r ?_
      refine wpSchedN_t ?_
      refine wpSchedN_t ?_
      refine wpSchedN_t ?_
      refine wpSchedN_r ?_
      refine wpSchedN_t ?_
      refine wpSchedN_t ?_
      refine wpSchedN_t ?_
      refine wpSchedN_t ?_
      refine wpSchedN_t ?_
      refine anyN_end ?_
      refine NoPanic.normal ?_
      have hb5 := bDr hb
      clear e1 e2 e3 e4 e5 e6 e7 e8
      go_wp2_with fail
      exact ⟨⟨k + 1, cur ++ [hexC p, hexC q], by omega, by go_num, rfl, hb5, BT, hnx⟩, by simp [intOf]; omega⟩
    · obtain rfl : cur = hexT d := by have := hp.out; rwa [List.take_of_length_le (by omega)] at this
      generalize hexT d = T at *
      go_wp2_with fail
      go_ret
      exact ⟨rfl, hb⟩
end Go.Proofs.YtmbopkcmbiommaaGreatDoor

/-
  The reference's sheet: what it holds midway.
-/
namespace Go.Proofs.YtmbopkcmbiommaaGreatDoor
open Go Go.RowKit

def shR (r : Rw) : By := if okR r = true then rowT r else []
/-- The sheet's text and its flag behind some rows. -/
def shT (x : Wld) (D : List Rw) : By := headT x ++ D.flatMap shR
def shB (D : List Rw) : Bool := !(D.all okR)
theorem shT_snoc (x : Wld) (D : List Rw) (r : Rw) : shT x (D ++ [r]) = shT x D ++ shR r := by
  unfold shT
  rw [List.flatMap_append, ← List.append_assoc]
  simp
theorem shB_snoc (D : List Rw) (r : Rw) : shB (D ++ [r]) = (shB D || !(okR r)) := by
  unfold shB
  rw [List.all_append]
  simp
theorem shR_len (r : Rw) : (shR r).length ≤ rmR r := by
  unfold shR
  split
  · rename_i h; exact rowT_len h
  · exact Nat.zero_le _
theorem shL_len : ∀ D : List Rw, (D.flatMap shR).length ≤ rmS D
  | [] => Nat.zero_le _
  | r :: D => by
    have h1 := shR_len r
    have h2 := shL_len D
    unfold rmS at h2 ⊢
    rw [List.flatMap_cons, List.length_append, List.map_cons, List.sum_cons]
    omega
theorem shT_len {x : Wld} {D T : List Rw} (h : x.rows = D ++ T) (hh : okHead x = true) (hs : x.seed.length = 32) (hm : x.room ≤ 1000000000) : (shT x D).length ≤ 1000000000 := by
  have h1 := headT_len hh hs
  have h2 := shL_len D
  unfold Wld.room at hm
  rw [h, rmS_app] at hm
  unfold shT
  rw [List.length_append]
  omega
theorem sh_all : ∀ {D : List Rw}, D.all okR = true → D.flatMap shR = D.flatMap rowT
  | [], _ => rfl
  | r :: D, h => by
    rw [List.all_cons, Bool.and_eq_true] at h
    rw [List.flatMap_cons, List.flatMap_cons, sh_all h.2]
    unfold shR
    rw [if_pos h.1]
theorem sh_end {x : Wld} (hh : okHead x = true) (hp : postE x = 0) : printV x = if shB x.rows = true then ([], 590) else (shT x x.rows, 0) := by
  unfold printV
  rw [if_pos hp]
  have e : x.okW = x.rows.all okR := by unfold Wld.okW; rw [show (okN x.people && (okN x.covers && okN x.offs)) = okHead x from rfl, hh, Bool.true_and]
  rw [e]
  unfold shB
  cases h : x.rows.all okR with
  | true =>
    rw [if_pos rfl, if_neg (by simp)]
    unfold Wld.text shT
    rw [sh_all h]
  | false => rw [if_neg (by simp), if_pos (by simp)]
theorem sh_head {x : Wld} (hh : okHead x = false) (hp : postE x = 0) : printV x = ([], 590) := by
  unfold printV
  rw [if_pos hp]
  have e : x.okW = false := by unfold Wld.okW; rw [show (okN x.people && (okN x.covers && okN x.offs)) = okHead x from rfl, hh, Bool.false_and]
  rw [e]
  rfl
theorem wordN_le (k : Nat) : (wordN k).length ≤ 1000 := Nat.le_trans (wordN_len k) (by decide)
/-- A row is put. -/
theorem put_sh (x : Wld) (D : List Rw) (r : Rw) (A : Option Addr) (c n : Nat) (W : World) (hr : Rd W W.heap.size 1 A r.2.length (ints r.2)) (hl : r.2.length = n) (hn : n ≤ 10000000) (hD : (shT x D).length ≤ 1000000000) :
    Calls Tryz.prog 25 #[.agg #[.string ⟨(shT x D).toArray⟩, .bool (shB D)], .string ⟨(wordN r.1).toArray⟩, .slice A n c] W (Ret (.agg #[.string ⟨(shT x (D ++ [r])).toArray⟩, .bool (shB (D ++ [r]))]) W) := by
  subst hl
  have := rp_put (shT x D) (wordN r.1) (shB D) A c r.2 W hr hn (wordN_le r.1) hD
  rw [shT_snoc, shB_snoc]
  exact this
theorem rd_lit {w : World} {g : Nat} {t : TypeId} {l : List Int} (h : Blk w g t (ints l).toArray) : Rd w w.heap.size 1 (some ⟨g, 0, none⟩) l.length (ints l) :=
  ⟨by unfold ints; simp, fun _ => ⟨g, 0, rfl, h.lt, fun j u hu => by
    rw [Nat.zero_add, h.cell, List.getElem?_toArray]
    exact hu⟩⟩
end Go.Proofs.YtmbopkcmbiommaaGreatDoor

/-
  A region that draws: a slice copied onto an empty one, and one element more; the element is laid anywhere among these.
-/
namespace Go.Proofs.YtmbopkcmbiommaaGreatDoor
open Go Go.RowKit

theorem run_none {P : Program} {ts e : TypeId} {i0 : TypeInfo} (ht : P.underlying ts = some (.slice e)) (hi : P.info? e = some i0) (w : World) :
    (Instr.buildSlice ts 0 #[]).run P w = .ok (.slice (some ⟨w.heap.size, 0, none⟩) 0 0) (w.alloc (.cells #[] e)) := by
  simp [Instr.buildSlice, run_underlying ht, sizeOf, typeInfo, hi, newRow, go_sem, Instr.fill]
theorem own_none {w : World} {e : TypeId} {sz base : Nat} (h : base ≤ w.heap.size) : World.ownsRow (w.alloc (.cells #[] e)) base e sz (.slice (some ⟨w.heap.size, 0, none⟩) 0 0) 0 [] :=
  ⟨by simp, .inr ⟨w.heap.size, 0, #[], rfl, h, Blk.new w e #[] _ rfl, Nat.le_refl _, by omega, by simp, by simp⟩⟩
theorem put3 {a : Act} {d0 d1 d2 : Nat} {x0 x1 x2 : Value} (h' : d1 ≠ d2) (h2 : d0 ≠ d2) : ((a.put (some d0) x0).put (some d2) x2).put (some d1) x1 = ((a.put (some d0) x0).put (some d1) x1).put (some d2) x2 ∧ ((a.put (some d2) x2).put (some d0) x0).put (some d1) x1 = ((a.put (some d0) x0).put (some d1) x1).put (some d2) x2 := by
  have e : ∀ (b : Act) {i j : Nat} {u v : Value}, i ≠ j → (b.put (some i) u).put (some j) v = (b.put (some j) v).put (some i) u := fun b i j u v h => by
    simp only [Act.put]
    rw [Array.setIfInBounds_comm _ _ h]
  exact ⟨e _ (Ne.symm h'), by rw [e a (Ne.symm h2), e _ (Ne.symm h')]⟩
theorem run_append_zero {P : Program} {w : World} (base : Nat) (t ty e : TypeId) (i : TypeInfo) (size c : Nat) (ht : P.underlying t = some (.slice e)) (hi : P.info? e = some i) (v : Value) (n : Nat) (xs : List Value) (hown : w.ownsRow base e size v n xs) :
    (Builtin.append_ #[t, t] ty #[v, .slice none 0 c]).run P w = .ok v w := by
  rcases hown.2 with ⟨rfl, rfl⟩ | ⟨g, cap, cur, rfl, _, _, hnc, _⟩
  · simp [Builtin.append_, run_underlying ht, sizeOf, typeInfo, hi, Builtin.lenOf, Builtin.firstCells]
  · simp [Builtin.append_, run_underlying ht, sizeOf, typeInfo, hi, Builtin.lenOf, Builtin.firstCells, hnc, storeCells]
/-- append as a step of a region that draws: whatever slice reads as a list. -/
theorem step_appendA {P : Program} {ops : Array Oper} {o : Oper} {a : Act} {w : World} {K : Act → World → Prop} {Q : Exit → Act → World → Prop} {E : Prop} (s x : Operand) (t : TypeId)
    (base : Nat) (e : TypeId) (z : Value) (size bytes : Nat) (v : Value) (n : Nat) (xs : List Value) (A : Option Addr) (m c B : Nat) (news : List Value) (hgd : o.guard = none)
    (ho : o.op = .call { callee := .builtin .append, args := #[s, x], argTypes := #[t, t] })
    (ht : P.underlying t = some (.slice e)) (hinfo : (P.info? e).map (fun i => (i.zero, i.size, i.bytes)) = some (some z, size, bytes)) (hzs : z.cells.size = size) (hsz : 0 < size)
    (hs : a.eval s = v) (hown : w.ownsRow base e size v n xs) (hx : a.eval x = .slice A m c) (hr : Rd w B size A m news) (h1 : ∀ u ∈ news, u.oneCell' = true)
    (h63 : n + m ≤ maxLen) (hbytes : (n + m) * bytes ≤ 140737488355328) (hbase : base ≤ w.heap.size)
    (h : ∀ v' w', w'.ownsRow base e size v' (n + m) (xs ++ news) → Grew w w' v v' → K (a.put o.dst v') w') :
    if Region.wanted o (yielded ops a.tmps) = true then Oper.wp P o a w K Q else E := by
  cases A with
  | some ad => exact step_appendG s x t base e z size bytes v n xs (some ad) m c B news hgd ho ht hinfo hzs hsz hs hown hx hr (fun h => by cases h) h1 h63 hbytes hbase h
  | none =>
    have hm : m = 0 := by
      rcases Nat.eq_zero_or_pos m with h0 | h0
      · exact h0
      · obtain ⟨_, _, he, _⟩ := hr.2 h0
        cases he
    subst hm
    have hn0 : news = [] := List.eq_nil_of_length_eq_zero (by rw [hr.1]; simp)
    subst hn0
    obtain ⟨i0, hi, hz0, hz1, hz2⟩ := info_parts hinfo
    rw [if_pos (by simp [Region.wanted, hgd])]
    have hrun := run_append_zero (P := P) (w := w) base t o.type e i0 size c ht hi v n xs hown
    unfold Oper.wp execOp
    simp only [ho, resolve, invoke, builtin, Sem.run_bind, Sem.run_pure, Result.andThen_ok, List.map_toArray, List.map_cons, List.map_nil, hs, hx, hrun]
    exact h v w (by simpa using hown) (Grew.refl _ _)
theorem wanted_none {o : Oper} {y : Nat → Option Bool} (h : o.guard = none) : Region.wanted o y = true := by simp [Region.wanted, h]
set_option maxHeartbeats 1000000 in
theorem anyU_fresh {P : Program} {lo : List Oper} {Q : Exit → Act → World → Prop} {S : World → Prop} {listed : Array Bool} {a : Act} {w : World} (i0 i1 i2 i3 : Nat) (s : List (Nat × Nat)) (ts e : TypeId) (z : Value) (size bytes : Nat) (A : Option Addr) (m c B : Nat) (news X : List Value) (el : Value)
    {o0 o1 o2 o3 : Oper} {d0 d1 d2 dx de : Nat} {lr : List Oper}
    (ht : P.underlying ts = some (.slice e)) (hinfo : (P.info? e).map (fun i => (i.zero, i.size, i.bytes)) = some (some z, size, bytes)) (hzs : z.cells.size = size) (hsz : 0 < size)
    (hr : Rd w B size A m news) (hB : B ≤ w.heap.size) (hX : X.length = size)
    (r2 : ∀ w, (Instr.buildSlice ts 1 #[(0, el)]).run P w = .ok (.slice (some ⟨w.heap.size, 0, none⟩) 1 1) (w.alloc (.cells X.toArray e)))
    (hn1 : ∀ u ∈ news, u.oneCell' = true) (hX1 : ∀ u ∈ X, u.oneCell' = true) (h63 : m + 1 ≤ maxLen) (hbytes : (m + 1) * bytes ≤ 140737488355328)
    (KS : ∀ w', Below w.heap.size w w' → S w')
    (h : ∀ x0 x1 x2 v' w', w'.ownsRow w.heap.size e size v' (m + 1) (news ++ X) → Below w.heap.size w w' → wpList P lo.toArray (NoPanic Q) lr ((((a.put (some d0) x0).put (some d1) x1).put (some d2) x2).put o3.dst v') w')
    (h0 : lo.toArray[i0]? = some o0 := by rfl) (h1 : lo.toArray[i1]? = some o1 := by rfl) (h2 : lo.toArray[i2]? = some o2 := by rfl) (h3 : (pickS s lo).map (·.2) = o3 :: lr := by rfl)
    (p0 : o0.op = .buildSlice ts 0 #[] ∧ o0.guard = none ∧ o0.dst = some d0 := by exact ⟨rfl, rfl, rfl⟩)
    (p1 : o1.op = .call { callee := .builtin .append, args := #[.tmp d0, .tmp dx], argTypes := #[ts, ts] } ∧ o1.guard = none ∧ o1.dst = some d1 := by exact ⟨rfl, rfl, rfl⟩)
    (p2 : o2.op = .buildSlice ts 1 #[(0, .tmp de)] ∧ o2.guard = none ∧ o2.dst = some d2 := by exact ⟨rfl, rfl, rfl⟩)
    (p3 : o3.op = .call { callee := .builtin .append, args := #[.tmp d1, .tmp d2], argTypes := #[ts, ts] } ∧ o3.guard = none := by exact ⟨rfl, rfl⟩)
    (hx : a.eval (.tmp dx) = .slice A m c := by rfl) (he : a.eval (.tmp de) = el := by rfl)
    (hd : (decide (d0 < a.tmps.size) && (decide (d1 < a.tmps.size) && (decide (d2 < a.tmps.size) && (decide (d0 ≠ d1 ∧ d1 ≠ d2 ∧ d0 ≠ d2 ∧ d0 ≠ dx ∧ d0 ≠ de ∧ d1 ≠ de ∧ d2 ≠ dx))))) = true := by rfl)
    (hO : (Region.noSelect lo.toArray && (decide (Region.ready .any lo.toArray listed = [i0, i2]) && (decide (Region.ready .any lo.toArray (listed.setIfInBounds i0 true) = [i1, i2]) && (decide (Region.ready .any lo.toArray ((listed.setIfInBounds i0 true).setIfInBounds i1 true) = [i2]) && (decide (Region.ready .any lo.toArray ((listed.setIfInBounds i0 true).setIfInBounds i2 true) = [i1]) && (decide (Region.ready .any lo.toArray (listed.setIfInBounds i2 true) = [i0]) && (decide (Region.ready .any lo.toArray ((listed.setIfInBounds i2 true).setIfInBounds i0 true) = [i1]) &&
      ((s.all (fun x => decide (3 ≤ x.2)) && schedOk .any lo.toArray i3 s (((listed.setIfInBounds i0 true).setIfInBounds i1 true).setIfInBounds i2 true)) && (schedOk .any lo.toArray i3 s (((listed.setIfInBounds i0 true).setIfInBounds i2 true).setIfInBounds i1 true) && schedOk .any lo.toArray i3 s (((listed.setIfInBounds i2 true).setIfInBounds i0 true).setIfInBounds i1 true)))))))))) = true := by kernel_rfl) :
    wpAnyU P .any lo.toArray (NoPanic Q) S i3 (s.length + 3) listed a w := by
  simp only [Bool.and_eq_true, decide_eq_true_eq] at hd hO
  obtain ⟨s0, s1, s2, n01, n12, n02, n0x, n0e, n1e, n2x⟩ := hd
  obtain ⟨-, c0, c1, c2, c3, c4, c5, ⟨call, k1⟩, k2, k3⟩ := hO
  obtain ⟨iE, hiE, hz0, hz1, hz2⟩ := info_parts hinfo
  obtain ⟨p0, g0, t0⟩ := p0
  obtain ⟨p1, g1, t1⟩ := p1
  obtain ⟨p2, g2, t2⟩ := p2
  obtain ⟨p3, g3⟩ := p3
  have ends : ∀ (L : Array Bool) (x0 x1 x2 : Value) (v1 : Value) (w3 : World) (be : Nat), x1 = v1 → w3.ownsRow w.heap.size e size v1 m news → Below w.heap.size w w3 → x2 = .slice (some ⟨be, 0, none⟩) 1 1 → Blk w3 be e X.toArray → (s.all (fun x => decide (3 ≤ x.2)) && schedOk .any lo.toArray i3 s L) = true →
      wpAnyU P .any lo.toArray (NoPanic Q) S i3 s.length L (((a.put (some d0) x0).put (some d1) x1).put (some d2) x2) w3 := by
    intro L x0 x1 x2 v1 w3 be hx1 hown hb hx2 hbe hk
    subst hx1
    refine anyU_list s ?_ hk
    rw [h3]
    refine wpList_appendG (.tmp d1) (.tmp d2) ts w.heap.size e z size bytes x1 m news (some ⟨be, 0, none⟩) 1 1 w3.heap.size X g3 p3 ht hinfo hzs hsz ?_ hown ?_ ⟨by rw [hX, Nat.one_mul], fun _ => ⟨be, 0, rfl, hbe.lt, fun j u hu => by rw [Nat.zero_add, hbe.cell, List.getElem?_toArray]; exact hu⟩⟩ (fun h => by cases h) hX1 h63 hbytes hb.size ?_
    · rw [Act.eval_put_ne _ _ _ _ n12.symm]
      exact Act.eval_put_same _ _ _ (by rw [Act.size_put]; exact s1)
    · rw [Act.eval_put_same _ _ _ (by rw [Act.size_put, Act.size_put]; exact s2)]
      exact hx2
    · intro v' w' hown' hg
      exact h x0 x1 x2 v' w' hown' (hb.trans (hg.below hown hb.size))
  have hw0 := bAl (bRefl w) (.cells #[] e)
  have hev0 : ∀ (b : Act) (x : Value), b.tmps.size = a.tmps.size → (b.put (some d0) x).eval (.tmp d0) = x := fun b x hb => Act.eval_put_same _ _ _ (by rw [hb]; exact s0)
  have step2 : ∀ (b : Act) (v : World) (K' : Act → World → Prop), b.eval (.tmp de) = el → K' (b.put (some d2) (.slice (some ⟨v.heap.size, 0, none⟩) 1 1)) (v.alloc (.cells X.toArray e)) → if Region.wanted o2 (yielded lo.toArray b.tmps) = true then Oper.wp P o2 b v K' (NoPanic Q) else K' (b.put o2.dst undef) v := fun b v K' hb hk => by
    refine step_one (vals := #[(0, el)]) (wanted_none g2) p2 (by show [(0, b.eval (.tmp de))] = _; rw [hb]) (r2 v) ?_
    rw [t2]
    exact hk
  have step1 : ∀ (b : Act) (v : World) (g : Nat) (K' : Act → World → Prop), b.eval (.tmp d0) = .slice (some ⟨g, 0, none⟩) 0 0 → b.eval (.tmp dx) = .slice A m c → v.ownsRow w.heap.size e size (.slice (some ⟨g, 0, none⟩) 0 0) 0 [] → Below w.heap.size w v → (∀ v1 w', w'.ownsRow w.heap.size e size v1 m news → Grew v w' (.slice (some ⟨g, 0, none⟩) 0 0) v1 → K' (b.put (some d1) v1) w') → if Region.wanted o1 (yielded lo.toArray b.tmps) = true then Oper.wp P o1 b v K' (NoPanic Q) else K' (b.put o1.dst undef) v := fun b v g K' hb0 hbx hown hbl hk => by
    refine step_appendA (.tmp d0) (.tmp dx) ts w.heap.size e z size bytes _ 0 [] A m c B news g1 p1 ht hinfo hzs hsz hb0 hown hbx (hr.below (hbl.mono hB)) hn1 (by omega) (by rw [Nat.zero_add]; exact Nat.le_trans (Nat.mul_le_mul_right _ (Nat.le_succ m)) hbytes) hbl.size (fun v1 w' hown1 hg1 => ?_)
    rw [t1]
    rw [Nat.zero_add, List.nil_append] at hown1
    exact hk v1 w' hown1 hg1
  have step0 : ∀ (b : Act) (v : World) (K' : Act → World → Prop), K' (b.put (some d0) (.slice (some ⟨v.heap.size, 0, none⟩) 0 0)) (v.alloc (.cells #[] e)) → if Region.wanted o0 (yielded lo.toArray b.tmps) = true then Oper.wp P o0 b v K' (NoPanic Q) else K' (b.put o0.dst undef) v := fun b v K' hk => by
    refine step_one (vals := #[]) (wanted_none g0) p0 rfl (run_none ht hiE v) ?_
    rw [t0]
    exact hk
  refine anyU_two (i := i0) (j := i2) (g := s.length + 2) ⟨o0, h0, fun K' hK => step0 a w K' (hK.out _ _ (KS _ hw0) (fun _ => ?_))⟩ ⟨o2, h2, fun K' hK => step2 a w K' he (hK.out _ _ (KS _ (bAl (bRefl w) _)) (fun _ => ?_))⟩ c0
  · have own0 := own_none (w := w) (e := e) (sz := size) (base := w.heap.size) (Nat.le_refl _)
    refine anyU_two (i := i1) (j := i2) (g := s.length + 1) ⟨o1, h1, fun K' hK => step1 _ _ _ K' (hev0 a _ rfl) (by rw [Act.eval_put_ne _ _ _ _ n0x]; exact hx) own0 hw0 (fun v1 w' hown1 hg1 => hK.out _ _ (KS _ (hw0.trans (hg1.below own0 hw0.size))) (fun _ => ?_))⟩ ⟨o2, h2, fun K' hK => step2 _ _ K' (by rw [Act.eval_put_ne _ _ _ _ n0e]; exact he) (hK.out _ _ (KS _ (bAl hw0 _)) (fun _ => ?_))⟩ c1
    · have b1 := hw0.trans (hg1.below own0 hw0.size)
      refine anyU_one (i := i2) (g := s.length) ⟨o2, h2, fun K' hK => step2 _ _ K' (by rw [Act.eval_put_ne _ _ _ _ n1e, Act.eval_put_ne _ _ _ _ n0e]; exact he) (hK.out _ _ (KS _ (bAl b1 _)) (fun _ => ?_))⟩ c2
      exact ends _ _ _ _ v1 _ w'.heap.size rfl (hown1.alloc _) (bAl b1 _) rfl (Blk.new w' e X.toArray _ rfl) (by rw [Bool.and_eq_true]; exact ⟨call, k1⟩)
    · have own1 := own0.alloc (.cells X.toArray e)
      have b1 := bAl hw0 (.cells X.toArray e)
      have bx := Blk.new (w.alloc (.cells #[] e)) e X.toArray _ rfl
      refine anyU_one (i := i1) (g := s.length) ⟨o1, h1, fun K' hK => step1 _ _ _ K' (by rw [Act.eval_put_ne _ _ _ _ n02.symm]; exact hev0 a _ rfl) (by rw [Act.eval_put_ne _ _ _ _ n2x, Act.eval_put_ne _ _ _ _ n0x]; exact hx) own1 b1 (fun v1 w' hown1 hg1 => hK.out _ _ (KS _ (b1.trans (hg1.below own1 b1.size))) (fun _ => ?_))⟩ c3
      rw [(put3 n12 n02).1]
      exact ends _ _ _ _ v1 _ _ rfl hown1 (b1.trans (hg1.below own1 b1.size)) rfl ((hg1.other bx.lt (by simp [Value.ownBlock])).trans bx) (by rw [Bool.and_eq_true]; exact ⟨call, k2⟩)
  · have b0 := bAl (bRefl w) (.cells X.toArray e)
    have b1 := bAl b0 (.cells #[] e)
    have own1 := own_none (w := w.alloc (.cells X.toArray e)) (e := e) (sz := size) (base := w.heap.size) b0.size
    have bx := (Blk.new w e X.toArray _ rfl).alloc (.cells #[] e)
    refine anyU_one (i := i0) (g := s.length + 1) ⟨o0, h0, fun K' hK => step0 _ _ K' (hK.out _ _ (KS _ b1) (fun _ => ?_))⟩ c4
    refine anyU_one (i := i1) (g := s.length) ⟨o1, h1, fun K' hK => step1 _ _ _ K' (hev0 _ _ (Act.size_put _ _ _)) (by rw [Act.eval_put_ne _ _ _ _ n0x, Act.eval_put_ne _ _ _ _ n2x]; exact hx) own1 b1 (fun v1 w' hown1 hg1 => hK.out _ _ (KS _ (b1.trans (hg1.below own1 b1.size))) (fun _ => ?_))⟩ c5
    rw [(put3 n12 n02).2]
    exact ends _ _ _ _ v1 _ _ rfl hown1 (b1.trans (hg1.below own1 b1.size)) rfl ((hg1.other bx.lt (by simp [Value.ownBlock])).trans bx) (by rw [Bool.and_eq_true]; exact ⟨call, k3⟩)
end Go.Proofs.YtmbopkcmbiommaaGreatDoor
