/- The reference's tariff.Check; walked. -/
import Derived.Test.YtmbopkcmbiommaaGreatDoorRaq
import Derived.Test.YtmbopkcmbiommaaGreatDoorRak
import Derived.Test.YtmbopkcmbiommaaGreatDoorRao
set_option maxRecDepth 1000000
set_option maxHeartbeats 16000000
namespace Go.Proofs.YtmbopkcmbiommaaGreatDoor
open Go Go.RowKit
theorem ra_price (n : Int) (W : World) : Calls Tryz.prog 83 #[.int .i64 n] W (Same (.bool (priceB n)) W) := by
  unfold priceB btw
  cases h1 : decide (0 ≤ n) <;> cases h2 : decide (n ≤ 1048576)
  all_goals
    go_enter Tryz.func83, Tryz.ntmps83
    go_wp2_with fail
    go_ret
    exact ⟨by simp_all, rfl⟩
theorem tariff_no {base leg : List Int} {tiers : List Tie} (h : ¬ ((((base.length = leg.length ∧ 1 ≤ base.length) ∧ base.length ≤ 8) ∧ tiers.length ≤ 16) ∧ ((∀ m ∈ base, priceB m = true) ∧ ((∀ m ∈ leg, priceB m = true) ∧ tiersB 0 tiers = true)))) : tariffE base leg tiers = 210 := by
  unfold tariffE
  refine if_neg (fun h2 => h ?_)
  simp only [Bool.and_eq_true, decide_eq_true_eq, List.all_eq_true] at h2
  obtain ⟨a1, a2, a3, a4, a5, a6, a7⟩ := h2
  exact ⟨⟨⟨⟨a1, a2⟩, a3⟩, a4⟩, a5, a6, a7⟩
theorem tariff_yes {base leg : List Int} {tiers : List Tie} (h : (((base.length = leg.length ∧ 1 ≤ base.length) ∧ base.length ≤ 8) ∧ tiers.length ≤ 16) ∧ ((∀ m ∈ base, priceB m = true) ∧ ((∀ m ∈ leg, priceB m = true) ∧ tiersB 0 tiers = true))) : tariffE base leg tiers = 0 := by
  obtain ⟨⟨⟨⟨a1, a2⟩, a3⟩, a4⟩, a5, a6, a7⟩ := h
  unfold tariffE
  refine if_pos ?_
  simp only [Bool.and_eq_true, decide_eq_true_eq, List.all_eq_true]
  exact ⟨a1, a2, a3, a4, a5, a6, a7⟩
theorem tiersB_cons {b : Int} {x : Tie} {l : List Tie} (h : b < x.from_) (hp : priceB x.extra = true) : tiersB b (x :: l) = tiersB x.from_ l := by
  show ((decide _ && _) && _) = _
  rw [decide_eq_true h, hp]
  rfl
theorem tiersB_bad {b : Int} {x : Tie} {l : List Tie} (h : ¬ b < x.from_ ∨ priceB x.extra = false) : tiersB b (x :: l) = false := by
  show ((decide _ && _) && _) = _
  rcases h with h | h
  · rw [decide_eq_false h]; rfl
  · rw [h, Bool.and_false]; rfl
def prevF (l : List Tie) : Nat → Int
  | 0 => 0
  | k + 1 => match l[k]? with
    | some g => g.from_
    | none => 0
theorem ra_tariff (A0 A1 A2 : Option Addr) (c0 c1 c2 : Nat) (base leg : List Int) (tiers : List Tie) (W : World) (r0 : Rd W W.heap.size 1 A0 base.length (ints base)) (r1 : Rd W W.heap.size 1 A1 leg.length (ints leg)) (r2 : Rd W W.heap.size 2 A2 tiers.length (tiers.flatMap Tie.cl)) (hn0 : base.length ≤ 1000000) (hn2 : tiers.length ≤ 1000000) :
    Calls Tryz.prog 45 #[.agg #[.slice A0 base.length c0, .slice A1 leg.length c1, .slice A2 tiers.length c2]] W (Ret (.int .i64 (tariffE base leg tiers)) W) := by
  obtain ⟨v, hv⟩ : ∃ v, Hid (tariffE base leg tiers = v) := ⟨_, Lib.hid rfl⟩
  rw [hv.out]
  have hbad : Hid (¬ ((((base.length = leg.length ∧ 1 ≤ base.length) ∧ base.length ≤ 8) ∧ tiers.length ≤ 16) ∧ ((∀ m ∈ base, priceB m = true) ∧ ((∀ m ∈ leg, priceB m = true) ∧ tiersB 0 tiers = true))) → v = 210) := Lib.hid (fun h => hv.out.symm.trans (tariff_no h))
  have BT := Blk.new W 28 #[.slice A0 base.length c0, .slice A1 leg.length c1, .slice A2 tiers.length c2] _ rfl
  have hb := bAl (bRefl W) (.cells #[.slice A0 base.length c0, .slice A1 leg.length c1, .slice A2 tiers.length c2] 28)
  go_enter Tryz.func45, Tryz.ntmps45
  go_upto_region 1 with fail
  generalize W.alloc (.cells #[.slice A0 base.length c0, .slice A1 leg.length c1, .slice A2 tiers.length c2] 28) = w1 at *
  have d0 := BT.cell 0
  have d1 := BT.cell 1
  have d2 := BT.cell 2
  by_cases f0 : base.length ≠ leg.length
  · have hv2 := Lib.hid (hbad.out (fun h => by have := h.1; omega))
    have g0 : ((base.length : Int) != (leg.length : Int)) = true := by simp only [bne_iff_ne, ne_eq]; omega
    clear f0
    go_wp2_with fail
    go_ret
    exact ⟨ret_int hv2.out.symm, hb⟩
  have g0 : ((base.length : Int) != (leg.length : Int)) = false := by simp only [bne_eq_false_iff_eq]; omega
  replace f0 := Lib.hid f0
  by_cases f1 : base.length < 1
  · have hv2 := Lib.hid (hbad.out (fun h => by have := h.1; omega))
    have g1 : (base.length : Int) < 1 := by omega
    clear f1
    go_wp2_with fail
    go_ret
    exact ⟨ret_int hv2.out.symm, hb⟩
  have g1 : ¬ (base.length : Int) < 1 := by omega
  replace f1 := Lib.hid f1
  by_cases f2 : 8 < base.length
  · have hv2 := Lib.hid (hbad.out (fun h => by have := h.1; omega))
    have g2 : (8 : Int) < (base.length : Int) := by omega
    clear f2
    go_wp2_with fail
    go_ret
    exact ⟨ret_int hv2.out.symm, hb⟩
  have g2 : ¬ (8 : Int) < (base.length : Int) := by omega
  replace f2 := Lib.hid f2
  by_cases f3 : 16 < tiers.length
  · have hv2 := Lib.hid (hbad.out (fun h => by have := h.1; omega))
    have g3 : (16 : Int) < (tiers.length : Int) := by omega
    clear f3
    go_wp2_with fail
    go_ret
    exact ⟨ret_int hv2.out.symm, hb⟩
  have g3 : ¬ (16 : Int) < (tiers.length : Int) := by omega
  replace f3 := Lib.hid f3
  have hlen : Hid (base.length = leg.length) := Lib.hid (by have := f0.out; omega)
  go_wp2_with fail
  clear d0 d1 d2 g0 g1 g2 g3
  go_loopw [3] (fun i wr => ∃ k : Nat, k ≤ base.length ∧ i = .int .i64 k ∧ wr = w1 ∧ Hid ((∀ m ∈ base.take k, priceB m = true) ∧ ∀ m ∈ leg.take k, priceB m = true)) (fun i _ => base.length - (intOf i).toNat)
  case atStart => exact ⟨0, Nat.zero_le _, rfl, rfl, Lib.hid (by simp)⟩
  case round =>
    obtain ⟨k, hkn, rfl, rfl, hp⟩ := hrel
    have d0 := BT.cell 0
    have d1 := BT.cell 1
    by_cases hlt : k < base.length
    · obtain ⟨m, hm⟩ : ∃ y, Hid (base[k]? = some y) := ⟨_, Lib.hid (List.getElem?_eq_getElem hlt)⟩
      obtain ⟨n, hn⟩ : ∃ y, Hid (leg[k]? = some y) := ⟨_, Lib.hid (List.getElem?_eq_getElem (by have := hlen.out; omega))⟩
      obtain ⟨b1, o1, rfl, l1, hc1⟩ := (r0.below hb).2 (by omega)
      obtain ⟨b2, o2, rfl, l2, hc2⟩ := (r1.below hb).2 (by have := hlen.out; omega)
      have e0 := hc1 k _ (ints_at hm.out)
      have e1 := hc2 k _ (ints_at hn.out)
      have i0 : (0 : Int) ≤ (k : Int) := by omega
      have i1 : (k : Int) < (base.length : Int) := by omega
      have i2 : (k : Int) < (leg.length : Int) := by have := hlen.out; omega
      clear hc1 hc2
      have q1 := ra_price m wr
      have q2 := ra_price n wr
      cases hpm : priceB m with
      | false =>
        rw [hpm] at q1
        have hv2 := Lib.hid (hbad.out (fun h => by have := h.2.1 m (List.mem_of_getElem? hm.out); rw [hpm] at this; cases this))
        clear hpm
        go_wp2_with (go_at_call 83; (with_reducible refine q1.mono ?_); rintro e w6 ⟨rfl, rfl⟩)
        go_ret
        exact ⟨ret_int hv2.out.symm, hb⟩
      | true =>
        rw [hpm] at q1
        replace hpm := Lib.hid hpm
        cases hpn : priceB n with
        | false =>
          rw [hpn] at q2
          have hv2 := Lib.hid (hbad.out (fun h => by have := h.2.2.1 n (List.mem_of_getElem? hn.out); rw [hpn] at this; cases this))
          clear hpn
          go_wp2_with (first | (go_at_call 83; (with_reducible refine q1.mono ?_); rintro e w6 ⟨rfl, rfl⟩) | (go_at_call 83; (with_reducible refine q2.mono ?_); rintro e w7 ⟨rfl, rfl⟩))
          go_ret
          exact ⟨ret_int hv2.out.symm, hb⟩
        | true =>
          rw [hpn] at q2
          have hp2 : Hid ((∀ m ∈ base.take (k + 1), priceB m = true) ∧ ∀ m ∈ leg.take (k + 1), priceB m = true) := Lib.hid ⟨all_on (p := priceB) hp.out.1 hm.out hpm.out, all_on (p := priceB) hp.out.2 hn.out hpn⟩
          clear hpn
          go_wp2_with (first | (go_at_call 83; (with_reducible refine q1.mono ?_); rintro e w6 ⟨rfl, rfl⟩) | (go_at_call 83; (with_reducible refine q2.mono ?_); rintro e w7 ⟨rfl, rfl⟩))
          exact ⟨⟨k + 1, by omega, by go_num, trivial, hp2⟩, by simp [intOf]; omega⟩
    · have hp3 : Hid ((∀ m ∈ base, priceB m = true) ∧ ∀ m ∈ leg, priceB m = true) := Lib.hid (by have := hp.out; rwa [List.take_of_length_le (by omega), List.take_of_length_le (by have := hlen.out; omega)] at this)
      clear hp d1
      have d2 := BT.cell 2
      go_wp2_with fail
      clear d0 d2
      go_loopw [4] (fun i wr => ∃ k : Nat, k ≤ tiers.length ∧ i = .int .i64 k ∧ Below W.heap.size W wr ∧ Blk wr W.heap.size 28 #[.slice A0 base.length c0, .slice A1 leg.length c1, .slice A2 tiers.length c2] ∧ Hid (tiersB 0 tiers = tiersB (prevF tiers k) (tiers.drop k) ∧ 0 ≤ prevF tiers k)) (fun i _ => tiers.length - (intOf i).toNat)
      case atStart => exact ⟨0, Nat.zero_le _, rfl, hb, BT, Lib.hid ⟨rfl, by show (0 : Int) ≤ 0; omega⟩⟩
      case round =>
        clear hb BT
        obtain ⟨k, hkn, rfl, hb, BT, hp⟩ := hrel
        have d2 := BT.cell 2
        by_cases hlt : k < tiers.length
        · obtain ⟨x, hx⟩ : ∃ y, Hid (tiers[k]? = some y) := ⟨_, Lib.hid (List.getElem?_eq_getElem hlt)⟩
          have hdrop : Hid (tiers.drop k = x :: tiers.drop (k + 1)) := Lib.hid (by
            obtain ⟨hk, e⟩ := List.getElem?_eq_some_iff.1 hx.out
            rw [List.drop_eq_getElem_cons hk, e])
          have hnext : Hid (prevF tiers (k + 1) = x.from_) := Lib.hid (by show (match tiers[k]? with | some g => g.from_ | none => 0) = _; rw [hx.out])
          obtain ⟨b1, o1, rfl, l1, hc⟩ := Cl_at (f := Tie.cl) (fun _ _ => rfl) (r2.below hb) hlt hx.out
          have e0 := hc 0 (by omega)
          have e1 := hc 1 (by omega)
          simp only [Tie.cl, List.getElem?_cons_zero, List.getElem?_cons_succ, Nat.add_zero] at e0 e1
          clear hc
          have i0 : (0 : Int) ≤ (k : Int) := by omega
          have i1 : (k : Int) < (tiers.length : Int) := by omega
          have hbz := hb.size
          have hbad2 : Hid (¬ prevF tiers k < x.from_ ∨ priceB x.extra = false → v = 210) := Lib.hid (fun h => hbad.out (fun h9 => by
            have h8 := h9.2.2.2
            rw [hp.out.1, hdrop.out, tiersB_bad h] at h8
            cases h8))
          have hgood2 : Hid (prevF tiers k < x.from_ → priceB x.extra = true → tiersB 0 tiers = tiersB (prevF tiers (k + 1)) (tiers.drop (k + 1)) ∧ 0 ≤ prevF tiers (k + 1)) := Lib.hid (fun h h2 => ⟨by rw [hp.out.1, hdrop.out, tiersB_cons h h2, hnext.out], by rw [hnext.out]; have := hp.out.2; omega⟩)
          have hm1 := hp.out.2
          have qp := ra_price x.extra
          have KS : Hid (∀ w', Below wr.heap.size wr w' → w'.cell? ⟨W.heap.size, 2, none⟩ = some (.slice (some ⟨b1, o1, none⟩) tiers.length c2) ∧ w'.cell? ⟨b1, o1 + k * 2, none⟩ = some (.int .i64 x.from_) ∧ w'.cell? ⟨b1, o1 + k * 2 + 1, none⟩ = some (.int .i64 x.extra)) := Lib.hid (fun w' h => ⟨(BT.below h BT.lt).cell 2, (h.cell (p := ⟨b1, o1 + k * 2, none⟩) (by show b1 < _; omega)).trans e0, (h.cell (p := ⟨b1, o1 + k * 2 + 1, none⟩) (by show b1 < _; omega)).trans e1⟩)
          clear e0 e1
          by_cases f9 : x.from_ < 1
          · have hv2 := Lib.hid (hbad2.out (.inl (by omega)))
            go_upto_region 11 with fail
            refine wp_region_schN (g := 0) KS [(0, 1), (1, 2), (2, 1), (3, 1), (4, 1), (5, 2), (6, 1), (7, 1), (8, 1), (9, 1), (10, 1), (11, 1), (12, 1), (13, 1), (14, 1), (15, 1), (16, 1), (17, 1), (18, 1), (19, 1), (20, 1), (21, 1), (22, 1), (23, 1), (24, 1), (25, 1), (26, 1), (27, 1), (28, 1), (29, 1), (30, 1), (31, 1), (32, 1), (33, 1), (34, 0), (35, 1), (36, 1)] ?_
            simp only [pickS, List.getElem?_cons_zero, List.getElem?_cons_succ]
            refine wpSchedN_t ?_
            refine wpSchedN_r ?_
            refine wpSchedN_t ?_
            refine wpSchedN_t ?_
            refine wpSchedN_t ?_
            refine wpSchedN_r ?_
            refine wpSchedN_t ?_
            refine wpSchedN_t ?_
            refine wpSchedN_p ?_
            refine wpSchedN_p ?_
            refine wpSchedN_p ?_
            refine wpSchedN_p ?_
            refine wpSchedN_p ?_
            refine wpSchedN_p ?_
            refine wpSchedN_p ?_
            refine wpSchedN_p ?_
            refine wpSchedN_p ?_
            refine wpSchedN_p ?_
            refine wpSchedN_p ?_
            refine wpSchedN_p ?_
            refine wpSchedN_p ?_
            refine wpSchedN_p ?_
            refine wpSchedN_p ?_
            refine wpSchedN_p ?_
            refine wpSchedN_p ?_
            refine wpSchedN_p ?_
            refine wpSchedN_t ?_
            refine wpSchedN_t ?_
            refine wpSchedN_p ?_
            refine wpSchedN_p ?_
            refine wpSchedN_p ?_
            refine wpSchedN_p ?_
            refine wpSchedN_p ?_
            refine wpSchedN_p ?_
            refine wpSchedN_force (fun K hK => ?_)
            go_simp
            refine shut_go hK KS ?_
            clear hK K
            refine wpSchedN_p ?_
            refine wpSchedN_t ?_
            refine anyN_end ?_
            refine NoPanic.normal ?_
            go_wp2_with fail
            go_ret
            exact ⟨ret_int hv2.out.symm, bDr hb⟩
          obtain _ | k' := k
          · have hP0 : prevF tiers 0 = 0 := rfl
            have KS0 : Hid (∀ w', Below wr.heap.size wr w' → w'.cell? ⟨W.heap.size, 2, none⟩ = some (.slice (some ⟨b1, o1, none⟩) tiers.length c2) ∧ w'.cell? ⟨b1, o1, none⟩ = some (.int .i64 x.from_) ∧ w'.cell? ⟨b1, o1 + 1, none⟩ = some (.int .i64 x.extra)) := Lib.hid (fun w' h => by have := KS.out w' h; simpa only [Nat.zero_mul, Nat.add_zero] using this)
            have i6 : (0 : Int) < (tiers.length : Int) := by omega
            clear KS
            cases hpe : priceB x.extra with
            | false =>
              rw [hpe] at qp
              have hv2 := Lib.hid (hbad2.out (.inr hpe))
              clear hpe hbad2 hgood2
              go_upto_region 11 with fail
              refine wp_region_schN (g := 0) KS0 [(0, 1), (1, 2), (2, 1), (3, 1), (4, 1), (5, 2), (6, 1), (7, 1), (8, 1), (9, 1), (10, 1), (11, 1), (12, 1), (13, 1), (14, 1), (15, 1), (16, 1), (17, 1), (18, 1), (19, 1), (20, 1), (21, 1), (22, 1), (23, 1), (24, 1), (25, 1), (26, 1), (27, 1), (28, 1), (29, 2), (30, 1), (31, 1), (32, 1), (33, 2), (34, 0), (35, 1), (36, 1)] ?_
              simp only [pickS, List.getElem?_cons_zero, List.getElem?_cons_succ]
              refine wpSchedN_t ?_
              refine wpSchedN_r ?_
              refine wpSchedN_t ?_
              refine wpSchedN_t ?_
              refine wpSchedN_t ?_
              refine wpSchedN_r ?_
              refine wpSchedN_t ?_
              refine wpSchedN_t ?_
              refine wpSchedN_t ?_
              refine wpSchedN_t ?_
              refine wpSchedN_t ?_
              refine wpSchedN_p ?_
              refine wpSchedN_p ?_
              refine wpSchedN_p ?_
              refine wpSchedN_p ?_
              refine wpSchedN_p ?_
              refine wpSchedN_p ?_
              refine wpSchedN_p ?_
              refine wpSchedN_p ?_
              refine wpSchedN_p ?_
              refine wpSchedN_p ?_
              refine wpSchedN_p ?_
              refine wpSchedN_p ?_
              refine wpSchedN_p ?_
              refine wpSchedN_p ?_
              refine wpSchedN_t ?_
              refine wpSchedN_t ?_
              refine wpSchedN_t ?_
              refine wpSchedN_t ?_
              refine wpSchedN_r ?_
              refine wpSchedN_t ?_
              refine wpSchedN_t ?_
              refine wpSchedN_t ?_
              refine wpSchedN_r ?_
              refine wpSchedN_force (fun K hK => ?_)
              go_simp; (first | (go_at_call 83; (with_reducible refine (qp _).mono ?_); rintro e w6 ⟨rfl, rfl⟩) | skip)
              refine shut_go hK KS0 ?_
              clear hK K
              refine wpSchedN_t ?_
              refine wpSchedN_t ?_
              refine anyN_end ?_
              refine NoPanic.normal ?_
              go_wp2_with fail
              go_ret
              exact ⟨ret_int hv2.out.symm, bDr hb⟩
            | true =>
              rw [hpe] at qp
              have hnx := Lib.hid (hgood2.out (by rw [hP0]; omega) hpe)
              clear hpe hbad2 hgood2
              go_upto_region 11 with fail
              refine wp_region_schN (g := 0) KS0 [(0, 1), (1, 2), (2, 1), (3, 1), (4, 1), (5, 2), (6, 1), (7, 1), (8, 1), (9, 1), (10, 1), (11, 1), (12, 1), (13, 1), (14, 1), (15, 1), (16, 1), (17, 1), (18, 1), (19, 1), (20, 1), (21, 1), (22, 1), (23, 1), (24, 1), (25, 1), (26, 1), (27, 1), (28, 1), (29, 2), (30, 1), (31, 1), (32, 1), (33, 2), (34, 0), (35, 1), (36, 1)] ?_
              simp only [pickS, List.getElem?_cons_zero, List.getElem?_cons_succ]
              refine wpSchedN_t ?_
              refine wpSchedN_r ?_
              refine wpSchedN_t ?_
              refine wpSchedN_t ?_
              refine wpSchedN_t ?_
              refine wpSchedN_r ?_
              refine wpSchedN_t ?_
              refine wpSchedN_t ?_
              refine wpSchedN_t ?_
              refine wpSchedN_t ?_
              refine wpSchedN_t ?_
              refine wpSchedN_p ?_
              refine wpSchedN_p ?_
              refine wpSchedN_p ?_
              refine wpSchedN_p ?_
              refine wpSchedN_p ?_
              refine wpSchedN_p ?_
              refine wpSchedN_p ?_
              refine wpSchedN_p ?_
              refine wpSchedN_p ?_
              refine wpSchedN_p ?_
              refine wpSchedN_p ?_
              refine wpSchedN_p ?_
              refine wpSchedN_p ?_
              refine wpSchedN_p ?_
              refine wpSchedN_t ?_
              refine wpSchedN_t ?_
              refine wpSchedN_t ?_
              refine wpSchedN_t ?_
              refine wpSchedN_r ?_
              refine wpSchedN_t ?_
              refine wpSchedN_t ?_
              refine wpSchedN_t ?_
              refine wpSchedN_r ?_
              refine wpSchedN_force (fun K hK => ?_)
              go_simp; (first | (go_at_call 83; (with_reducible refine (qp _).mono ?_); rintro e w6 ⟨rfl, rfl⟩) | skip)
              refine shut_go hK KS0 ?_
              clear hK K
              refine wpSchedN_t ?_
              refine wpSchedN_t ?_
              refine anyN_end ?_
              refine NoPanic.normal ?_
              go_wp2_with fail
              exact ⟨⟨0 + 1, by omega, by go_num, bDr hb, BT, Lib.hid hnx.out⟩, by simp [intOf]; omega⟩
          · obtain ⟨z, hz⟩ : ∃ y, Hid (tiers[k']? = some y) := ⟨_, Lib.hid (List.getElem?_eq_getElem (by omega))⟩
            have hPz : prevF tiers (k' + 1) = z.from_ := by show (match tiers[k']? with | some g => g.from_ | none => 0) = _; rw [hz.out]
            rw [hPz] at hbad2 hgood2
            obtain ⟨b3, o3, e3, l3, hc3⟩ := Cl_at (f := Tie.cl) (fun _ _ => rfl) (r2.below hb) (show k' < tiers.length by omega) hz.out
            injection e3 with e3
            injection e3 with e3 e4
            subst e3
            subst e4
            have c3 := hc3 0 (by omega)
            simp only [Tie.cl, List.getElem?_cons_zero, Nat.add_zero] at c3
            have i2 : (0 : Int) ≤ (k' : Int) := by omega
            have i3 : (k' : Int) < (tiers.length : Int) := by omega
            have i5 : (0 : Int) ≤ (k' : Int) + 1 := by omega
            have i6 : (k' : Int) + 1 < (tiers.length : Int) := by omega
            have i4 : IntKind.i64.wrap (k' : Int) = (k' : Int) := by rw [IntKind.wrap_i64]; omega
            have KT : Hid (∀ w', Below wr.heap.size wr w' → w'.cell? ⟨W.heap.size, 2, none⟩ = some (.slice (some ⟨b1, o1, none⟩) tiers.length c2) ∧ w'.cell? ⟨b1, o1 + (k' + 1) * 2, none⟩ = some (.int .i64 x.from_) ∧ w'.cell? ⟨b1, o1 + (k' + 1) * 2 + 1, none⟩ = some (.int .i64 x.extra) ∧ w'.cell? ⟨b1, o1 + k' * 2, none⟩ = some (.int .i64 z.from_)) := Lib.hid (fun w' h => ⟨(KS.out w' h).1, (KS.out w' h).2.1, (KS.out w' h).2.2, (h.cell (p := ⟨b1, o1 + k' * 2, none⟩) (by show b1 < _; omega)).trans c3⟩)
            clear hc3 c3
            by_cases f10 : x.from_ ≤ z.from_
            · have hv2 := Lib.hid (hbad2.out (.inl (by omega)))
              clear hbad2 hgood2 hPz hm1
              go_upto_region 11 with fail
              refine wp_region_schN (g := 0) KT [(0, 1), (1, 2), (2, 1), (3, 1), (4, 1), (5, 2), (6, 1), (7, 1), (8, 1), (9, 1), (10, 1), (11, 1), (12, 2), (13, 1), (14, 1), (15, 1), (16, 2), (17, 1), (18, 2), (19, 1), (20, 1), (21, 1), (22, 1), (23, 2), (24, 1), (25, 1), (26, 1), (27, 1), (28, 1), (29, 1), (30, 1), (31, 1), (32, 1), (33, 1), (34, 0), (35, 1), (36, 1)] ?_
              simp only [pickS, List.getElem?_cons_zero, List.getElem?_cons_succ]
              refine wpSchedN_t ?_
              refine wpSchedN_r ?_
              refine wpSchedN_t ?_
              refine wpSchedN_t ?_
              refine wpSchedN_t ?_
              refine wpSchedN_r ?_
              refine wpSchedN_t ?_
              refine wpSchedN_t ?_
              refine wpSchedN_t ?_
              refine wpSchedN_t ?_
              refine wpSchedN_t ?_
              refine wpSchedN_t ?_
              refine wpSchedN_r ?_
              refine wpSchedN_t ?_
              refine wpSchedN_t ?_
              refine wpSchedN_t ?_
              refine wpSchedN_r ?_
              refine wpSchedN_t ?_
              refine wpSchedN_r ?_
              refine wpSchedN_t ?_
              refine wpSchedN_t ?_
              refine wpSchedN_t ?_
              refine wpSchedN_t ?_
              refine wpSchedN_r ?_
              refine wpSchedN_t ?_
              refine wpSchedN_t ?_
              refine wpSchedN_t ?_
              refine wpSchedN_t ?_
              refine wpSchedN_p ?_
              refine wpSchedN_p ?_
              refine wpSchedN_p ?_
              refine wpSchedN_p ?_
              refine wpSchedN_p ?_
              refine wpSchedN_p ?_
              refine wpSchedN_force (fun K hK => ?_)
              go_simp
              refine shut_go hK KT ?_
              clear hK K
              refine wpSchedN_p ?_
              refine wpSchedN_t ?_
              refine anyN_end ?_
              refine NoPanic.normal ?_
              go_wp2_with fail
              go_ret
              exact ⟨ret_int hv2.out.symm, bDr hb⟩
            cases hpe : priceB x.extra with
            | false =>
              rw [hpe] at qp
              have hv2 := Lib.hid (hbad2.out (.inr hpe))
              clear hpe hbad2 hgood2 hPz hm1
              go_upto_region 11 with fail
              refine wp_region_schN (g := 0) KT [(0, 1), (1, 2), (2, 1), (3, 1), (4, 1), (5, 2), (6, 1), (7, 1), (8, 1), (9, 1), (10, 1), (11, 1), (12, 2), (13, 1), (14, 1), (15, 1), (16, 2), (17, 1), (18, 2), (19, 1), (20, 1), (21, 1), (22, 1), (23, 2), (24, 1), (25, 1), (26, 1), (27, 1), (28, 1), (29, 2), (30, 1), (31, 1), (32, 1), (33, 2), (34, 0), (35, 1), (36, 1)] ?_
              simp only [pickS, List.getElem?_cons_zero, List.getElem?_cons_succ]
              refine wpSchedN_t ?_
              refine wpSchedN_r ?_
              refine wpSchedN_t ?_
              refine wpSchedN_t ?_
              refine wpSchedN_t ?_
              refine wpSchedN_r ?_
              refine wpSchedN_t ?_
              refine wpSchedN_t ?_
              refine wpSchedN_t ?_
              refine wpSchedN_t ?_
              refine wpSchedN_t ?_
              refine wpSchedN_t ?_
              refine wpSchedN_r ?_
              refine wpSchedN_t ?_
              refine wpSchedN_t ?_
              refine wpSchedN_t ?_
              refine wpSchedN_r ?_
              refine wpSchedN_t ?_
              refine wpSchedN_r ?_
              refine wpSchedN_t ?_
              refine wpSchedN_t ?_
              refine wpSchedN_t ?_
              refine wpSchedN_t ?_
              refine wpSchedN_r ?_
              refine wpSchedN_t ?_
              refine wpSchedN_t ?_
              refine wpSchedN_t ?_
              refine wpSchedN_t ?_
              refine wpSchedN_t ?_
              refine wpSchedN_r ?_
              refine wpSchedN_t ?_
              refine wpSchedN_t ?_
              refine wpSchedN_t ?_
              refine wpSchedN_r ?_
              refine wpSchedN_force (fun K hK => ?_)
              go_simp; (first | (go_at_call 83; (with_reducible refine (qp _).mono ?_); rintro e w6 ⟨rfl, rfl⟩) | skip)
              refine shut_go hK KT ?_
              clear hK K
              refine wpSchedN_t ?_
              refine wpSchedN_t ?_
              refine anyN_end ?_
              refine NoPanic.normal ?_
              go_wp2_with fail
              go_ret
              exact ⟨ret_int hv2.out.symm, bDr hb⟩
            | true =>
              rw [hpe] at qp
              have hnx := Lib.hid (hgood2.out (by omega) hpe)
              clear hpe hbad2 hgood2 hPz hm1
              go_upto_region 11 with fail
              refine wp_region_schN (g := 0) KT [(0, 1), (1, 2), (2, 1), (3, 1), (4, 1), (5, 2), (6, 1), (7, 1), (8, 1), (9, 1), (10, 1), (11, 1), (12, 2), (13, 1), (14, 1), (15, 1), (16, 2), (17, 1), (18, 2), (19, 1), (20, 1), (21, 1), (22, 1), (23, 2), (24, 1), (25, 1), (26, 1), (27, 1), (28, 1), (29, 2), (30, 1), (31, 1), (32, 1), (33, 2), (34, 0), (35, 1), (36, 1)] ?_
              simp only [pickS, List.getElem?_cons_zero, List.getElem?_cons_succ]
              refine wpSchedN_t ?_
              refine wpSchedN_r ?_
              refine wpSchedN_t ?_
              refine wpSchedN_t ?_
              refine wpSchedN_t ?_
              refine wpSchedN_r ?_
              refine wpSchedN_t ?_
              refine wpSchedN_t ?_
              refine wpSchedN_t ?_
              refine wpSchedN_t ?_
              refine wpSchedN_t ?_
              refine wpSchedN_t ?_
              refine wpSchedN_r ?_
              refine wpSchedN_t ?_
              refine wpSchedN_t ?_
              refine wpSchedN_t ?_
              refine wpSchedN_r ?_
              refine wpSchedN_t ?_
              refine wpSchedN_r ?_
              refine wpSchedN_t ?_
              refine wpSchedN_t ?_
              refine wpSchedN_t ?_
              refine wpSchedN_t ?_
              refine wpSchedN_r ?_
              refine wpSchedN_t ?_
              refine wpSchedN_t ?_
              refine wpSchedN_t ?_
              refine wpSchedN_t ?_
              refine wpSchedN_t ?_
              refine wpSchedN_r ?_
              refine wpSchedN_t ?_
              refine wpSchedN_t ?_
              refine wpSchedN_t ?_
              refine wpSchedN_r ?_
              refine wpSchedN_force (fun K hK => ?_)
              go_simp; (first | (go_at_call 83; (with_reducible refine (qp _).mono ?_); rintro e w6 ⟨rfl, rfl⟩) | skip)
              refine shut_go hK KT ?_
              clear hK K
              refine wpSchedN_t ?_
              refine wpSchedN_t ?_
              refine anyN_end ?_
              refine NoPanic.normal ?_
              go_wp2_with fail
              exact ⟨⟨k' + 1 + 1, by omega, by go_num, bDr hb, BT, Lib.hid hnx.out⟩, by simp [intOf]; omega⟩
        · have hfin : Hid (v = 0) := Lib.hid (hv.out.symm.trans (tariff_yes ⟨⟨⟨⟨hlen.out, by have := f1.out; omega⟩, by have := f2.out; omega⟩, by have := f3.out; omega⟩, hp3.out.1, hp3.out.2, by rw [hp.out.1, List.drop_of_length_le (by omega)]; rfl⟩))
          go_wp2_with fail
          go_ret
          exact ⟨ret_int hfin.out.symm, hb⟩
theorem oright_iff {o : Odr} {n people classes : Int} : o.right n people classes = true ↔ (¬ o.from_ < 0 ∧ ¬ n ≤ o.from_ ∧ ¬ o.dest < 0 ∧ ¬ n ≤ o.dest ∧ ¬ o.from_ = o.dest ∧ ¬ o.person < 0 ∧ ¬ people ≤ o.person ∧ ¬ o.cls < 0 ∧ ¬ classes ≤ o.cls ∧ ¬ o.after < 0 ∧ ¬ o.by_ ≤ o.after ∧ ¬ 2097152 ≤ o.by_ ∧ ¬ o.crowd < 1 ∧ ¬ 64 < o.crowd ∧ ¬ o.pay < 0 ∧ ¬ 1099511627776 < o.pay) ∧ ((o.els = 0 ∨ o.els = 1 ∨ o.els = 2) ∧ agB n (-1) o.ag = true) := by
  unfold Odr.right blw
  simp only [Bool.and_eq_true, decide_eq_true_eq]
  constructor
  · rintro ⟨h1, h2, h3, h4, h5, h6, h7, h8, h9, h10, h11⟩
    refine ⟨?_, by omega, h11⟩
    omega
  · rintro ⟨h, h2, h3⟩
    refine ⟨by omega, by omega, by omega, by omega, by omega, by omega, by omega, by omega, by omega, by omega, h3⟩
theorem oright_not {o : Odr} {n people classes : Int} (h : ¬ ((¬ o.from_ < 0 ∧ ¬ n ≤ o.from_ ∧ ¬ o.dest < 0 ∧ ¬ n ≤ o.dest ∧ ¬ o.from_ = o.dest ∧ ¬ o.person < 0 ∧ ¬ people ≤ o.person ∧ ¬ o.cls < 0 ∧ ¬ classes ≤ o.cls ∧ ¬ o.after < 0 ∧ ¬ o.by_ ≤ o.after ∧ ¬ 2097152 ≤ o.by_ ∧ ¬ o.crowd < 1 ∧ ¬ 64 < o.crowd ∧ ¬ o.pay < 0 ∧ ¬ 1099511627776 < o.pay) ∧ ((o.els = 0 ∨ o.els = 1 ∨ o.els = 2) ∧ agB n (-1) o.ag = true))) : o.right n people classes = false := by
  rw [← Bool.not_eq_true]
  exact fun h2 => h (oright_iff.1 h2)
theorem agB_cons {n b a : Int} {l : List Int} (h : b < a) (hp : a < n) : agB n b (a :: l) = agB n a l := by
  show ((decide _ && decide _) && _) = _
  rw [decide_eq_true h, decide_eq_true hp]
  rfl
theorem agB_bad {n b a : Int} {l : List Int} (h : ¬ b < a ∨ ¬ a < n) : agB n b (a :: l) = false := by
  show ((decide _ && decide _) && _) = _
  rcases h with h | h
  · rw [decide_eq_false h]; rfl
  · rw [decide_eq_false h, Bool.and_false]; rfl
def prevA (l : List Int) : Nat → Int
  | 0 => -1
  | k + 1 => match l[k]? with
    | some g => g
    | none => 0
theorem ra_odr (o : Odr) (A : Option Addr) (c : Nat) (n people classes : Int) (W : World) (r : Rd W W.heap.size 1 A o.ag.length (ints o.ag)) (hn : o.ag.length ≤ 1000000) :
    Calls Tryz.prog 46 #[.agg (o.cl (.slice A o.ag.length c)).toArray, .int .i64 n, .int .i64 people, .int .i64 classes] W (Ret (.bool (o.right n people classes)) W) := by
  obtain ⟨v, hv⟩ : ∃ v, Hid (o.right n people classes = v) := ⟨_, Lib.hid rfl⟩
  rw [hv.out]
  have hbad : Hid (¬ ((¬ o.from_ < 0 ∧ ¬ n ≤ o.from_ ∧ ¬ o.dest < 0 ∧ ¬ n ≤ o.dest ∧ ¬ o.from_ = o.dest ∧ ¬ o.person < 0 ∧ ¬ people ≤ o.person ∧ ¬ o.cls < 0 ∧ ¬ classes ≤ o.cls ∧ ¬ o.after < 0 ∧ ¬ o.by_ ≤ o.after ∧ ¬ 2097152 ≤ o.by_ ∧ ¬ o.crowd < 1 ∧ ¬ 64 < o.crowd ∧ ¬ o.pay < 0 ∧ ¬ 1099511627776 < o.pay) ∧ ((o.els = 0 ∨ o.els = 1 ∨ o.els = 2) ∧ agB n (-1) o.ag = true)) → v = false) := Lib.hid (fun h => hv.out.symm.trans (oright_not h))
  have BT := Blk.new W 65 (o.cl (.slice A o.ag.length c)).toArray _ rfl
  have hb := bAl (bRefl W) (.cells (o.cl (.slice A o.ag.length c)).toArray 65)
  go_enter Tryz.func46, Tryz.ntmps46
  go_upto_region 1 with fail
  generalize W.alloc (.cells (o.cl (.slice A o.ag.length c)).toArray 65) = w1 at *
  have d0 : w1.cell? ⟨W.heap.size, 0, none⟩ = some (.int .i64 o.from_) := BT.cell 0
  have d1 : w1.cell? ⟨W.heap.size, 1, none⟩ = some (.int .i64 o.person) := BT.cell 1
  have d2 : w1.cell? ⟨W.heap.size, 2, none⟩ = some (.int .i64 o.dest) := BT.cell 2
  have d3 : w1.cell? ⟨W.heap.size, 3, none⟩ = some (.int .i64 o.cls) := BT.cell 3
  have d4 : w1.cell? ⟨W.heap.size, 4, none⟩ = some (.int .i64 o.after) := BT.cell 4
  have d5 : w1.cell? ⟨W.heap.size, 5, none⟩ = some (.int .i64 o.by_) := BT.cell 5
  have d6 : w1.cell? ⟨W.heap.size, 6, none⟩ = some (.int .i64 o.crowd) := BT.cell 6
  have d7 : w1.cell? ⟨W.heap.size, 7, none⟩ = some (.int .i64 o.pay) := BT.cell 7
  by_cases f0 : o.from_ < 0
  · have hv2 := Lib.hid (hbad.out (fun h => by have := h.1; omega))
    go_wp2_with fail
    go_ret
    exact ⟨ret_bool hv2.out.symm, hb⟩
  by_cases f1 : n ≤ o.from_
  · have hv2 := Lib.hid (hbad.out (fun h => by have := h.1; omega))
    go_wp2_with fail
    go_ret
    exact ⟨ret_bool hv2.out.symm, hb⟩
  by_cases f2 : o.dest < 0
  · have hv2 := Lib.hid (hbad.out (fun h => by have := h.1; omega))
    go_wp2_with fail
    go_ret
    exact ⟨ret_bool hv2.out.symm, hb⟩
  by_cases f3 : n ≤ o.dest
  · have hv2 := Lib.hid (hbad.out (fun h => by have := h.1; omega))
    go_wp2_with fail
    go_ret
    exact ⟨ret_bool hv2.out.symm, hb⟩
  by_cases f4 : o.from_ = o.dest
  · have hv2 := Lib.hid (hbad.out (fun h => by have := h.1; omega))
    have g4 : (o.from_ == o.dest) = true := by simp only [beq_iff_eq]; exact f4
    clear f4
    go_wp2_with fail
    go_ret
    exact ⟨ret_bool hv2.out.symm, hb⟩
  have g4 : (o.from_ == o.dest) = false := by simp only [beq_eq_false_iff_ne]; exact f4
  replace f4 := Lib.hid f4
  by_cases f5 : o.person < 0
  · have hv2 := Lib.hid (hbad.out (fun h => by have := h.1; omega))
    go_wp2_with fail
    go_ret
    exact ⟨ret_bool hv2.out.symm, hb⟩
  by_cases f6 : people ≤ o.person
  · have hv2 := Lib.hid (hbad.out (fun h => by have := h.1; omega))
    go_wp2_with fail
    go_ret
    exact ⟨ret_bool hv2.out.symm, hb⟩
  by_cases f7 : o.cls < 0
  · have hv2 := Lib.hid (hbad.out (fun h => by have := h.1; omega))
    go_wp2_with fail
    go_ret
    exact ⟨ret_bool hv2.out.symm, hb⟩
  by_cases f8 : classes ≤ o.cls
  · have hv2 := Lib.hid (hbad.out (fun h => by have := h.1; omega))
    go_wp2_with fail
    go_ret
    exact ⟨ret_bool hv2.out.symm, hb⟩
  by_cases f9 : o.after < 0
  · have hv2 := Lib.hid (hbad.out (fun h => by have := h.1; omega))
    go_wp2_with fail
    go_ret
    exact ⟨ret_bool hv2.out.symm, hb⟩
  by_cases f10 : o.by_ ≤ o.after
  · have hv2 := Lib.hid (hbad.out (fun h => by have := h.1; omega))
    go_wp2_with fail
    go_ret
    exact ⟨ret_bool hv2.out.symm, hb⟩
  by_cases f11 : 2097152 ≤ o.by_
  · have hv2 := Lib.hid (hbad.out (fun h => by have := h.1; omega))
    go_wp2_with fail
    go_ret
    exact ⟨ret_bool hv2.out.symm, hb⟩
  by_cases f12 : o.crowd < 1
  · have hv2 := Lib.hid (hbad.out (fun h => by have := h.1; omega))
    go_wp2_with fail
    go_ret
    exact ⟨ret_bool hv2.out.symm, hb⟩
  by_cases f13 : 64 < o.crowd
  · have hv2 := Lib.hid (hbad.out (fun h => by have := h.1; omega))
    go_wp2_with fail
    go_ret
    exact ⟨ret_bool hv2.out.symm, hb⟩
  by_cases f14 : o.pay < 0
  · have hv2 := Lib.hid (hbad.out (fun h => by have := h.1; omega))
    go_wp2_with fail
    go_ret
    exact ⟨ret_bool hv2.out.symm, hb⟩
  by_cases f15 : 1099511627776 < o.pay
  · have hv2 := Lib.hid (hbad.out (fun h => by have := h.1; omega))
    go_wp2_with fail
    go_ret
    exact ⟨ret_bool hv2.out.symm, hb⟩
  have hC : Hid (¬ o.from_ < 0 ∧ ¬ n ≤ o.from_ ∧ ¬ o.dest < 0 ∧ ¬ n ≤ o.dest ∧ ¬ o.from_ = o.dest ∧ ¬ o.person < 0 ∧ ¬ people ≤ o.person ∧ ¬ o.cls < 0 ∧ ¬ classes ≤ o.cls ∧ ¬ o.after < 0 ∧ ¬ o.by_ ≤ o.after ∧ ¬ 2097152 ≤ o.by_ ∧ ¬ o.crowd < 1 ∧ ¬ 64 < o.crowd ∧ ¬ o.pay < 0 ∧ ¬ 1099511627776 < o.pay) := Lib.hid ⟨f0, f1, f2, f3, f4.out, f5, f6, f7, f8, f9, f10, f11, f12, f13, f14, f15⟩
  have d8 : w1.cell? ⟨W.heap.size, 8, none⟩ = some (.slice A o.ag.length c) := BT.cell 8
  go_wp2_with fail
  clear d0 d1 d2 d3 d4 d5 d6 d7 d8 g4 f0 f1 f2 f3 f4 f5 f6 f7 f8 f9 f10 f11 f12 f13 f14 f15
  go_loopw [9] (fun i wr => ∃ k : Nat, k ≤ o.ag.length ∧ i = .int .i64 k ∧ Below W.heap.size W wr ∧ Blk wr W.heap.size 65 (o.cl (.slice A o.ag.length c)).toArray ∧ Hid (agB n (-1) o.ag = agB n (prevA o.ag k) (o.ag.drop k) ∧ -1 ≤ prevA o.ag k)) (fun i _ => o.ag.length - (intOf i).toNat)
  case atStart => exact ⟨0, Nat.zero_le _, rfl, hb, BT, Lib.hid ⟨rfl, by show (-1 : Int) ≤ -1; omega⟩⟩
  case round =>
    clear hb BT
    obtain ⟨k, hkn, rfl, hb, BT, hp⟩ := hrel
    have d8 : wr.cell? ⟨W.heap.size, 8, none⟩ = some (.slice A o.ag.length c) := BT.cell 8
    by_cases hlt : k < o.ag.length
    · obtain ⟨a, hx⟩ : ∃ y, Hid (o.ag[k]? = some y) := ⟨_, Lib.hid (List.getElem?_eq_getElem hlt)⟩
      have hdrop : Hid (o.ag.drop k = a :: o.ag.drop (k + 1)) := Lib.hid (by
        obtain ⟨hk, e⟩ := List.getElem?_eq_some_iff.1 hx.out
        rw [List.drop_eq_getElem_cons hk, e])
      have hnext : Hid (prevA o.ag (k + 1) = a) := Lib.hid (by show (match o.ag[k]? with | some g => g | none => 0) = _; rw [hx.out])
      have hbz := hb.size
      obtain ⟨b1, o1, rfl, l1, hc⟩ := (r.below hb).2 (by omega)
      have e0 := hc k _ (ints_at hx.out)
      have i0 : (0 : Int) ≤ (k : Int) := by omega
      have i1 : (k : Int) < (o.ag.length : Int) := by omega
      have hbad2 : Hid (¬ prevA o.ag k < a ∨ ¬ a < n → v = false) := Lib.hid (fun h => hbad.out (fun h9 => by
        have h8 := h9.2.2
        rw [hp.out.1, hdrop.out, agB_bad h] at h8
        cases h8))
      have hgood2 : Hid (prevA o.ag k < a → a < n → agB n (-1) o.ag = agB n (prevA o.ag (k + 1)) (o.ag.drop (k + 1)) ∧ -1 ≤ prevA o.ag (k + 1)) := Lib.hid (fun h h2 => ⟨by rw [hp.out.1, hdrop.out, agB_cons h h2, hnext.out], by rw [hnext.out]; have := hp.out.2; omega⟩)
      have hm1 := hp.out.2
      have KS : Hid (∀ w', Below wr.heap.size wr w' → w'.cell? ⟨W.heap.size, 8, none⟩ = some (.slice (some ⟨b1, o1, none⟩) o.ag.length c) ∧ w'.cell? ⟨b1, o1 + k, none⟩ = some (.int .i64 a)) := Lib.hid (fun w' h => ⟨(BT.below h BT.lt).cell 8, (h.cell (p := ⟨b1, o1 + k, none⟩) (by show b1 < _; omega)).trans e0⟩)
      clear e0
      by_cases f8 : a < 0
      · have hv2 := Lib.hid (hbad2.out (.inl (by omega)))
        clear hbad2 hgood2 hm1
        go_upto_region 8 with fail
        refine wp_region_schN (g := 0) KS [(0, 1), (1, 2), (2, 1), (3, 1), (4, 2), (5, 1), (6, 1), (7, 1), (8, 1), (9, 1), (10, 1), (11, 1), (12, 1), (13, 1), (14, 1), (15, 1), (16, 1), (17, 1), (18, 1), (19, 1), (20, 1), (21, 1), (22, 1), (23, 1), (24, 1), (25, 1), (26, 1), (27, 1), (28, 1), (29, 1), (30, 1), (31, 1), (32, 1)] ?_
        simp only [pickS, List.getElem?_cons_zero, List.getElem?_cons_succ]
        refine wpSchedN_t ?_
        refine wpSchedN_r ?_
        refine wpSchedN_t ?_
        refine wpSchedN_t ?_
        refine wpSchedN_r ?_
        refine wpSchedN_t ?_
        refine wpSchedN_t ?_
        refine wpSchedN_p ?_
        refine wpSchedN_p ?_
        refine wpSchedN_p ?_
        refine wpSchedN_p ?_
        refine wpSchedN_p ?_
        refine wpSchedN_p ?_
        refine wpSchedN_p ?_
        refine wpSchedN_t ?_
        refine wpSchedN_t ?_
        refine wpSchedN_p ?_
        refine wpSchedN_p ?_
        refine wpSchedN_p ?_
        refine wpSchedN_p ?_
        refine wpSchedN_p ?_
        refine wpSchedN_p ?_
        refine wpSchedN_p ?_
        refine wpSchedN_p ?_
        refine wpSchedN_p ?_
        refine wpSchedN_p ?_
        refine wpSchedN_p ?_
        refine wpSchedN_p ?_
        refine wpSchedN_p ?_
        refine wpSchedN_p ?_
        refine wpSchedN_p ?_
        refine wpSchedN_p ?_
        refine wpSchedN_t ?_
        refine anyN_end ?_
        refine NoPanic.normal ?_
        go_wp2_with fail
        go_ret
        exact ⟨ret_bool hv2.out.symm, bDr hb⟩
      by_cases f9 : n ≤ a
      · have hv2 := Lib.hid (hbad2.out (.inr (by omega)))
        clear hbad2 hgood2 hm1
        go_upto_region 8 with fail
        refine wp_region_schN (g := 0) KS [(0, 1), (1, 2), (2, 1), (3, 1), (4, 2), (5, 1), (6, 1), (7, 1), (8, 2), (9, 1), (10, 1), (11, 2), (12, 1), (13, 1), (14, 1), (15, 1), (16, 1), (17, 1), (18, 1), (19, 1), (20, 1), (21, 1), (22, 1), (23, 1), (24, 1), (25, 1), (26, 1), (27, 1), (28, 1), (29, 1), (30, 1), (31, 1), (32, 1)] ?_
        simp only [pickS, List.getElem?_cons_zero, List.getElem?_cons_succ]
        refine wpSchedN_t ?_
        refine wpSchedN_r ?_
        refine wpSchedN_t ?_
        refine wpSchedN_t ?_
        refine wpSchedN_r ?_
        refine wpSchedN_t ?_
        refine wpSchedN_t ?_
        refine wpSchedN_t ?_
        refine wpSchedN_r ?_
        refine wpSchedN_t ?_
        refine wpSchedN_t ?_
        refine wpSchedN_r ?_
        refine wpSchedN_t ?_
        refine wpSchedN_t ?_
        refine wpSchedN_t ?_
        refine wpSchedN_t ?_
        refine wpSchedN_p ?_
        refine wpSchedN_p ?_
        refine wpSchedN_p ?_
        refine wpSchedN_p ?_
        refine wpSchedN_p ?_
        refine wpSchedN_p ?_
        refine wpSchedN_p ?_
        refine wpSchedN_p ?_
        refine wpSchedN_p ?_
        refine wpSchedN_p ?_
        refine wpSchedN_p ?_
        refine wpSchedN_p ?_
        refine wpSchedN_p ?_
        refine wpSchedN_p ?_
        refine wpSchedN_p ?_
        refine wpSchedN_p ?_
        refine wpSchedN_t ?_
        refine anyN_end ?_
        refine NoPanic.normal ?_
        go_wp2_with fail
        go_ret
        exact ⟨ret_bool hv2.out.symm, bDr hb⟩
      obtain _ | k' := k
      · have hP0 : prevA o.ag 0 = -1 := rfl
        have KS0 : Hid (∀ w', Below wr.heap.size wr w' → w'.cell? ⟨W.heap.size, 8, none⟩ = some (.slice (some ⟨b1, o1, none⟩) o.ag.length c) ∧ w'.cell? ⟨b1, o1, none⟩ = some (.int .i64 a)) := Lib.hid (fun w' h => by have := KS.out w' h; simpa only [Nat.add_zero] using this)
        have i6 : (0 : Int) < (o.ag.length : Int) := by omega
        have hnx := Lib.hid (hgood2.out (by rw [hP0]; omega) (by omega))
        clear KS hbad2 hgood2 hc
        go_upto_region 8 with fail
        refine wp_region_schN (g := 0) KS0 [(0, 1), (1, 2), (2, 1), (3, 1), (4, 2), (5, 1), (6, 1), (7, 1), (8, 2), (9, 1), (10, 1), (11, 2), (12, 1), (13, 1), (14, 1), (15, 1), (16, 1), (17, 1), (18, 1), (19, 1), (20, 1), (21, 1), (22, 1), (23, 1), (24, 1), (25, 1), (26, 1), (27, 1), (28, 1), (29, 1), (30, 1), (31, 1), (32, 1)] ?_
        simp only [pickS, List.getElem?_cons_zero, List.getElem?_cons_succ]
        refine wpSchedN_t ?_
        refine wpSchedN_r ?_
        refine wpSchedN_t ?_
        refine wpSchedN_t ?_
        refine wpSchedN_r ?_
        refine wpSchedN_t ?_
        refine wpSchedN_t ?_
        refine wpSchedN_t ?_
        refine wpSchedN_r ?_
        refine wpSchedN_t ?_
        refine wpSchedN_t ?_
        refine wpSchedN_r ?_
        refine wpSchedN_t ?_
        refine wpSchedN_t ?_
        refine wpSchedN_t ?_
        refine wpSchedN_t ?_
        refine wpSchedN_t ?_
        refine wpSchedN_t ?_
        refine wpSchedN_t ?_
        refine wpSchedN_p ?_
        refine wpSchedN_p ?_
        refine wpSchedN_p ?_
        refine wpSchedN_p ?_
        refine wpSchedN_p ?_
        refine wpSchedN_p ?_
        refine wpSchedN_p ?_
        refine wpSchedN_p ?_
        refine wpSchedN_p ?_
        refine wpSchedN_p ?_
        refine wpSchedN_p ?_
        refine wpSchedN_p ?_
        refine wpSchedN_t ?_
        refine wpSchedN_t ?_
        refine anyN_end ?_
        refine NoPanic.normal ?_
        go_wp2_with fail
        exact ⟨⟨0 + 1, by omega, by go_num, bDr hb, BT, Lib.hid hnx.out⟩, by simp [intOf]; omega⟩
      · obtain ⟨z, hz⟩ : ∃ y, Hid (o.ag[k']? = some y) := ⟨_, Lib.hid (List.getElem?_eq_getElem (by omega))⟩
        have hPz : prevA o.ag (k' + 1) = z := by show (match o.ag[k']? with | some g => g | none => 0) = _; rw [hz.out]
        rw [hPz] at hbad2 hgood2 hm1
        have c3 := hc k' _ (ints_at hz.out)
        have i2 : (0 : Int) ≤ (k' : Int) := by omega
        have i3 : (k' : Int) < (o.ag.length : Int) := by omega
        have i4 : IntKind.i64.wrap (k' : Int) = (k' : Int) := by rw [IntKind.wrap_i64]; omega
        have i5 : (0 : Int) ≤ (k' : Int) + 1 := by omega
        have i6 : (k' : Int) + 1 < (o.ag.length : Int) := by omega
        have KT : Hid (∀ w', Below wr.heap.size wr w' → w'.cell? ⟨W.heap.size, 8, none⟩ = some (.slice (some ⟨b1, o1, none⟩) o.ag.length c) ∧ w'.cell? ⟨b1, o1 + (k' + 1), none⟩ = some (.int .i64 a) ∧ w'.cell? ⟨b1, o1 + k', none⟩ = some (.int .i64 z)) := Lib.hid (fun w' h => ⟨(KS.out w' h).1, (KS.out w' h).2, (h.cell (p := ⟨b1, o1 + k', none⟩) (by show b1 < _; omega)).trans c3⟩)
        clear hc c3 hPz
        by_cases f10 : a ≤ z
        · have hv2 := Lib.hid (hbad2.out (.inl (by omega)))
          clear hbad2 hgood2 hm1
          go_upto_region 8 with fail
          refine wp_region_schN (g := 0) KT [(0, 1), (1, 2), (2, 1), (3, 1), (4, 2), (5, 1), (6, 1), (7, 1), (8, 2), (9, 1), (10, 1), (11, 2), (12, 1), (13, 1), (14, 1), (15, 1), (16, 1), (17, 1), (18, 1), (19, 1), (20, 2), (21, 1), (22, 1), (23, 1), (24, 2), (25, 1), (26, 2), (27, 1), (28, 1), (29, 2), (30, 1), (31, 1), (32, 1)] ?_
          simp only [pickS, List.getElem?_cons_zero, List.getElem?_cons_succ]
          refine wpSchedN_t ?_
          refine wpSchedN_r ?_
          refine wpSchedN_t ?_
          refine wpSchedN_t ?_
          refine wpSchedN_r ?_
          refine wpSchedN_t ?_
          refine wpSchedN_t ?_
          refine wpSchedN_t ?_
          refine wpSchedN_r ?_
          refine wpSchedN_t ?_
          refine wpSchedN_t ?_
          refine wpSchedN_r ?_
          refine wpSchedN_t ?_
          refine wpSchedN_t ?_
          refine wpSchedN_t ?_
          refine wpSchedN_t ?_
          refine wpSchedN_t ?_
          refine wpSchedN_t ?_
          refine wpSchedN_t ?_
          refine wpSchedN_t ?_
          refine wpSchedN_r ?_
          refine wpSchedN_t ?_
          refine wpSchedN_t ?_
          refine wpSchedN_t ?_
          refine wpSchedN_r ?_
          refine wpSchedN_t ?_
          refine wpSchedN_r ?_
          refine wpSchedN_t ?_
          refine wpSchedN_t ?_
          refine wpSchedN_r ?_
          refine wpSchedN_t ?_
          refine wpSchedN_t ?_
          refine wpSchedN_t ?_
          refine anyN_end ?_
          refine NoPanic.normal ?_
          go_wp2_with fail
          go_ret
          exact ⟨ret_bool hv2.out.symm, bDr hb⟩
        have hnx := Lib.hid (hgood2.out (by omega) (by omega))
        clear hbad2 hgood2 hm1
        go_upto_region 8 with fail
        refine wp_region_schN (g := 0) KT [(0, 1), (1, 2), (2, 1), (3, 1), (4, 2), (5, 1), (6, 1), (7, 1), (8, 2), (9, 1), (10, 1), (11, 2), (12, 1), (13, 1), (14, 1), (15, 1), (16, 1), (17, 1), (18, 1), (19, 1), (20, 2), (21, 1), (22, 1), (23, 1), (24, 2), (25, 1), (26, 2), (27, 1), (28, 1), (29, 2), (30, 1), (31, 1), (32, 1)] ?_
        simp only [pickS, List.getElem?_cons_zero, List.getElem?_cons_succ]
        refine wpSchedN_t ?_
        refine wpSchedN_r ?_
        refine wpSchedN_t ?_
        refine wpSchedN_t ?_
        refine wpSchedN_r ?_
        refine wpSchedN_t ?_
        refine wpSchedN_t ?_
        refine wpSchedN_t ?_
        refine wpSchedN_r ?_
        refine wpSchedN_t ?_
        refine wpSchedN_t ?_
        refine wpSchedN_r ?_
        refine wpSchedN_t ?_
        refine wpSchedN_t ?_
        refine wpSchedN_t ?_
        refine wpSchedN_t ?_
        refine wpSchedN_t ?_
        refine wpSchedN_t ?_
        refine wpSchedN_t ?_
        refine wpSchedN_t ?_
        refine wpSchedN_r ?_
        refine wpSchedN_t ?_
        refine wpSchedN_t ?_
        refine wpSchedN_t ?_
        refine wpSchedN_r ?_
        refine wpSchedN_t ?_
        refine wpSchedN_r ?_
        refine wpSchedN_t ?_
        refine wpSchedN_t ?_
        refine wpSchedN_r ?_
        refine wpSchedN_t ?_
        refine wpSchedN_t ?_
        refine wpSchedN_t ?_
        refine anyN_end ?_
        refine NoPanic.normal ?_
        go_wp2_with fail
        exact ⟨⟨k' + 1 + 1, by omega, by go_num, bDr hb, BT, Lib.hid hnx.out⟩, by simp [intOf]; omega⟩
    · have hag : Hid (agB n (-1) o.ag = true) := Lib.hid (by rw [hp.out.1, List.drop_of_length_le (by omega)]; rfl)
      have d10 : wr.cell? ⟨W.heap.size, 10, none⟩ = some (.int .i64 o.els) := BT.cell 10
      by_cases e0 : o.els = 0
      · have hv2 := Lib.hid (hv.out.symm.trans (oright_iff.2 ⟨by have := hC.out; omega, .inl e0, hag.out⟩))
        have g0 : (o.els == 0) = true := by simp only [beq_iff_eq]; exact e0
        clear e0
        go_wp2_with fail
        go_ret
        exact ⟨ret_bool hv2.out.symm, hb⟩
      have g0 : (o.els == 0) = false := by simp only [beq_eq_false_iff_ne]; exact e0
      by_cases e1 : o.els = 1
      · have hv2 := Lib.hid (hv.out.symm.trans (oright_iff.2 ⟨by have := hC.out; omega, .inr (.inl e1), hag.out⟩))
        have g1 : (o.els == 1) = true := by simp only [beq_iff_eq]; exact e1
        clear e0 e1
        go_wp2_with fail
        go_ret
        exact ⟨ret_bool hv2.out.symm, hb⟩
      have g1 : (o.els == 1) = false := by simp only [beq_eq_false_iff_ne]; exact e1
      by_cases e2 : o.els = 2
      · have hv2 := Lib.hid (hv.out.symm.trans (oright_iff.2 ⟨by have := hC.out; omega, .inr (.inr e2), hag.out⟩))
        have g2 : (o.els == 2) = true := by simp only [beq_iff_eq]; exact e2
        clear e0 e1 e2
        go_wp2_with fail
        go_ret
        exact ⟨ret_bool hv2.out.symm, hb⟩
      have g2 : (o.els == 2) = false := by simp only [beq_eq_false_iff_ne]; exact e2
      have hv2 := Lib.hid (hbad.out (fun h => by have := h.2.1; omega))
      clear e0 e1 e2
      go_wp2_with fail
      go_ret
      exact ⟨ret_bool hv2.out.symm, hb⟩
end Go.Proofs.YtmbopkcmbiommaaGreatDoor
