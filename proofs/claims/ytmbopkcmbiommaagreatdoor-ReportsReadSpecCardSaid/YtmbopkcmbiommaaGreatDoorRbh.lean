/- The reference's reader: numbers; walked. -/
import Derived.Test.YtmbopkcmbiommaaGreatDoorRbg
import Derived.Test.YtmbopkcmbiommaaGreatDoorRaw
import Derived.Test.YtmbopkcmbiommaaGreatDoorRak
import Derived.Test.YtmbopkcmbiommaaGreatDoorRap
import Derived.Test.YtmbopkcmbiommaaGreatDoorRaf
set_option maxRecDepth 1000000
set_option maxHeartbeats 16000000
namespace Go.Proofs.YtmbopkcmbiommaaGreatDoor
open Go Go.RowKit
theorem magN_lt : ∀ (l : By) (n : Nat), magN n l < (n + 1) * 10 ^ l.length
  | [], n => by show n < (n + 1) * 10 ^ 0; omega
  | c :: l, n => by
    have ih := magN_lt l (if 48 ≤ c.toNat ∧ c.toNat ≤ 57 then 10 * n + (c.toNat - 48) else n)
    have h2 : (if 48 ≤ c.toNat ∧ c.toNat ≤ 57 then 10 * n + (c.toNat - 48) else n) + 1 ≤ (n + 1) * 10 := by split <;> omega
    show magN _ l < (n + 1) * 10 ^ (l.length + 1)
    refine Nat.lt_of_lt_of_le ih ?_
    rw [Nat.pow_succ, Nat.mul_comm (10 ^ l.length) 10, ← Nat.mul_assoc]
    exact Nat.mul_le_mul_right _ h2
theorem magN_small {t : By} {k : Nat} (hk : k ≤ 15) : magN 0 (t.take k) < 1000000000000000 := by
  have h := magN_lt (t.take k) 0
  have h1 : (t.take k).length ≤ 15 := by rw [List.length_take]; omega
  have h2 : (10 : Nat) ^ (t.take k).length ≤ 10 ^ 15 := Nat.pow_le_pow_right (by omega) h1
  have h3 : (10 : Nat) ^ 15 = 1000000000000000 := by decide
  omega
theorem magN_step {t : By} {k : Nat} {u : UInt8} (h : t[k]? = some u) : magN 0 (t.take (k + 1)) = if 48 ≤ u.toNat ∧ u.toNat ≤ 57 then 10 * magN 0 (t.take k) + (u.toNat - 48) else magN 0 (t.take k) := by
  obtain ⟨h1, h2⟩ := List.getElem?_eq_some_iff.1 h
  rw [List.take_succ_eq_append_getElem h1, magN_app, h2]
  rfl
theorem by_at {s : ByteArray} {k : Nat} {u : UInt8} (h : k < s.size) (hu : s[k]'h = u) : s.data.toList[k]? = some u := by
  have hs : s.data.toList.length = s.size := by rw [Array.length_toList]; rfl
  rw [List.getElem?_eq_getElem (by omega)]
  exact congrArg some hu
theorem ba_ne {s : ByteArray} {l : By} (h : ¬ l = s.data.toList) : ((⟨l.toArray⟩ : ByteArray).toList == s.toList) = false := str_ne (fun e => h (by rw [← e]))
theorem ba_eq {s : ByteArray} {l : By} (h : l = s.data.toList) : (⟨l.toArray⟩ : ByteArray) = s := by rw [h]
theorem num_head (s : ByteArray) : ((s.size = 0) ∧ refN s.data.toList = (magN 0 (s.data.toList.take 15) : Nat)) ∨ (∃ h : 0 < s.size, s[0]'h = 45 ∧ refN s.data.toList = -((magN 0 (s.data.toList.take 15) : Nat) : Int)) ∨ (∃ h : 0 < s.size, s[0]'h ≠ 45 ∧ refN s.data.toList = (magN 0 (s.data.toList.take 15) : Nat)) := by
  have hsl : s.data.toList.length = s.size := by rw [Array.length_toList]; rfl
  by_cases h : 0 < s.size
  · obtain ⟨u, hu⟩ : ∃ u, s[0]'h = u := ⟨_, rfl⟩
    have h0 : s.data.toList.head? = some u := by rw [List.head?_eq_getElem?]; exact by_at h hu
    by_cases h45 : u = 45
    · refine .inr (.inl ⟨h, hu.trans h45, ?_⟩)
      unfold refN
      rw [if_pos (by rw [h0, h45])]
    · refine .inr (.inr ⟨h, by rw [hu]; exact h45, ?_⟩)
      unfold refN
      rw [if_neg (by rw [h0]; intro e; injection e with e; exact h45 e)]
  · refine .inl ⟨by omega, ?_⟩
    have h0 : s.data.toList = [] := List.eq_nil_of_length_eq_zero (by omega)
    unfold refN
    rw [h0, if_neg (by simp)]
theorem rp_number (s : ByteArray) (W : World) (hs : s.size ≤ 1000000) : Calls Tryz.prog 103 #[.string s] W (Ret (.tuple #[.int .i64 (refN s.data.toList), .bool (refOk s.data.toList)]) W) := by
  have hsl : s.data.toList.length = s.size := by rw [Array.length_toList]; rfl
  obtain ⟨n9, hn9⟩ : ∃ n9, Hid (refN s.data.toList = n9) := ⟨_, Lib.hid rfl⟩
  obtain ⟨o9, ho9⟩ : ∃ o9, Hid (refOk s.data.toList = o9) := ⟨_, Lib.hid rfl⟩
  rw [hn9.out, ho9.out]
  go_enter Tryz.func103, Tryz.ntmps103
  go_wp2_with fail
  go_loopw [4, 5] (fun v i wr => ∃ (k m : Nat), k ≤ s.size ∧ k ≤ 15 ∧ i = .int .i64 k ∧ v = .int .i64 m ∧ m < 1000000000000000 ∧ W = wr ∧ Hid (m = magN 0 (s.data.toList.take k))) (fun _ i _ => 15 - (intOf i).toNat)
  case atStart => exact ⟨0, 0, by omega, by omega, rfl, rfl, by omega, rfl, Lib.hid rfl⟩
  case round =>
    obtain ⟨k, m, hk, hk15, rfl, rfl, hm, rfl, hp⟩ := hrel
    have i0 : (0 : Int) ≤ (k : Int) := by omega
    by_cases hc : (k : Int) < (s.size : Int) ∧ (k : Int) < 15
    · obtain ⟨hlt, h15⟩ := hc
      obtain ⟨u, hu⟩ : ∃ u, s[k]'(by omega) = u := ⟨_, rfl⟩
      have hst := magN_step (by_at _ hu)
      have hmb := magN_small (t := s.data.toList) (k := k + 1) (by omega)
      rw [← hp.out] at hst
      by_cases u1 : 48 ≤ (u.toNat : Int)
      · by_cases u2 : (u.toNat : Int) ≤ 57
        · rw [if_pos (by omega)] at hst
          have e1 : IntKind.i64.wrap (10 * (m : Int)) = 10 * (m : Int) := by rw [IntKind.wrap_i64]; omega
          have e2 : IntKind.u8.wrap ((u.toNat : Int) - 48) = (u.toNat : Int) - 48 := by rw [IntKind.wrap_u8]; omega
          have e3 : IntKind.i64.wrap ((u.toNat : Int) - 48) = (u.toNat : Int) - 48 := by rw [IntKind.wrap_i64]; omega
          have e4 : IntKind.i64.wrap (10 * (m : Int) + ((u.toNat : Int) - 48)) = ((10 * m + (u.toNat - 48) : Nat) : Int) := by rw [IntKind.wrap_i64]; omega
          replace hst := Lib.hid hst
          have hm2 : 10 * m + (u.toNat - 48) < 1000000000000000 := by rw [← hst.out]; exact hmb
          clear hmb
          go_wp2_with fail
          exact ⟨⟨k + 1, 10 * m + (u.toNat - 48), by omega, by omega, by go_num, by go_num, hm2, trivial, Lib.hid hst.out.symm⟩, by simp [intOf]; omega⟩
        · rw [if_neg (by omega)] at hst
          replace hst := Lib.hid hst
          clear hmb
          go_wp2_with fail
          exact ⟨⟨k + 1, m, by omega, by omega, by go_num, rfl, hm, trivial, Lib.hid hst.out.symm⟩, by simp [intOf]; omega⟩
      · rw [if_neg (by omega)] at hst
        replace hst := Lib.hid hst
        clear hmb
        go_wp2_with fail
        exact ⟨⟨k + 1, m, by omega, by omega, by go_num, rfl, hm, trivial, Lib.hid hst.out.symm⟩, by simp [intOf]; omega⟩
    · have hf : Hid (m = magN 0 (s.data.toList.take 15)) := Lib.hid (by
        rw [hp.out]
        by_cases hk9 : k = 15
        · rw [hk9]
        · rw [List.take_of_length_le (by omega), List.take_of_length_le (by omega)])
      have hh : ((s.size = 0) ∧ n9 = (m : Int)) ∨ (∃ h : 0 < s.size, s[0]'h = 45 ∧ n9 = -(m : Int)) ∨ (∃ h : 0 < s.size, s[0]'h ≠ 45 ∧ n9 = (m : Int)) := by
        rw [← hn9.out, hf.out]
        exact num_head s
      have hok : Hid (o9 = (decide (s.size ≤ 15) && (okN n9 && decide (itB n9 = s.data.toList)))) := Lib.hid (by rw [← ho9.out, ← hn9.out]; unfold refOk; rw [hsl])
      clear hn9 ho9 hf hp
      have p1 := Lib.hid (rp_in n9 W)
      have p2 := Lib.hid (fun h => ra_num n9 h W)
      have hsp : ¬ ((k : Int) < (s.size : Int)) ∨ ((k : Int) < (s.size : Int) ∧ ¬ ((k : Int) < 15)) := by omega
      rcases hsp with g1 | ⟨g1, g2⟩
      all_goals
        rcases hh with ⟨h0, hn⟩ | ⟨h0, hu, hn⟩ | ⟨h0, hu, hn⟩
        all_goals
          first
            | (have z0 : ¬ 0 < (s.size : Int) := (by omega); replace hn := hn.symm; clear h0)
            | (have z0 : 0 < (s.size : Int) := (by omega); have z1 : (((s[0]'h0).toNat : Int) == 45) = false := (beq_eq_false_iff_ne.2 (fun e => hu (UInt8.toNat_inj.1 (by show (s[0]'h0).toNat = 45; omega)))); replace hn := hn.symm)
            | (have z0 : 0 < (s.size : Int) := (by omega); have z1 : IntKind.i64.wrap (-(m : Int)) = n9 := (by rw [IntKind.wrap_i64]; omega); have hu2 : (s[0]'h0) = (45 : UInt8) := hu; clear hn)
          by_cases l15 : (s.size : Int) ≤ 15
          · cases hin : okN n9 with
            | false =>
              have q1 := p1.out
              rw [hin] at q1
              obtain rfl : o9 = false := by rw [hok.out, hin, decide_eq_true (by omega)]; rfl
              clear hok hin p1 p2
              go_wp2_with (go_at_call 22; (with_reducible refine q1.mono ?_); rintro e w6 ⟨rfl, rfl⟩)
              all_goals (go_ret2; exact ⟨rfl, bRefl _⟩)
            | true =>
              have q1 := p1.out
              have q2 := p2.out hin
              rw [hin] at q1
              by_cases heq : itB n9 = s.data.toList
              · obtain rfl : o9 = true := by rw [hok.out, hin, decide_eq_true (by omega), decide_eq_true heq]; rfl
                have g9 := ba_eq heq
                clear hok hin p1 p2 heq
                generalize (⟨(itB n9).toArray⟩ : ByteArray) = sT at *
                subst g9
                go_wp2_with (first | (go_at_call 22; (with_reducible refine q1.mono ?_); rintro e w6 ⟨rfl, rfl⟩) | (go_at_call 23; (with_reducible refine q2.mono ?_); rintro e w7 ⟨rfl, b7⟩))
                all_goals (go_ret2; exact ⟨rfl, b7⟩)
              · obtain rfl : o9 = false := by rw [hok.out, hin, decide_eq_true (by omega), decide_eq_false heq]; rfl
                have g9 := ba_ne heq
                clear hok hin p1 p2 heq
                generalize (⟨(itB n9).toArray⟩ : ByteArray) = sT at *
                go_wp2_with (first | (go_at_call 22; (with_reducible refine q1.mono ?_); rintro e w6 ⟨rfl, rfl⟩) | (go_at_call 23; (with_reducible refine q2.mono ?_); rintro e w7 ⟨rfl, b7⟩))
                all_goals (go_ret2; exact ⟨rfl, b7⟩)
          · obtain rfl : o9 = false := by rw [hok.out, decide_eq_false (by omega)]; rfl
            clear hok
            go_wp2_with fail
            all_goals (go_ret2; exact ⟨rfl, bRefl _⟩)
theorem cut_list (s : ByteArray) (a b : Nat) : (s.extract a b).data.toList = (s.data.toList.drop a).take (b - a) := by
  rw [ByteArray.data_extract, Array.toList_extract]
theorem str_info : (Tryz.prog.info? 9).map (fun i => (i.zero, i.size, i.bytes)) = some (some (.string ⟨#[]⟩), 1, 16) := by kernel_rfl
def SplPost (l : List By) (W : World) (e : Ending) (w' : World) : Prop := ∃ (v : Value) (ss : List ByteArray), e = .returned v ∧ bys ss = l ∧ w'.ownsRow W.heap.size 9 1 v ss.length (strs ss) ∧ Below W.heap.size W w'
theorem rp_split (s : ByteArray) (c : UInt8) (W : World) (hs : s.size ≤ 1000000) : Calls Tryz.prog 29 #[.string s, .int .u8 (c.toNat : Nat)] W (SplPost (splitC c s.data.toList) W) := by
  have hsl : s.data.toList.length = s.size := by rw [Array.length_toList]; rfl
  go_enter Tryz.func29, Tryz.ntmps29
  go_wp2_with fail
  go_loopw [5, 6, 7] (fun v f i wr => ∃ (k p : Nat) (ss : List ByteArray), k ≤ s.size ∧ p ≤ k ∧ ss.length ≤ k ∧ i = .int .i64 k ∧ f = .int .i64 p ∧ Below W.heap.size W wr ∧ wr.ownsRow W.heap.size 9 1 v ss.length (strs ss) ∧ Hid (splitC c s.data.toList = bys ss ++ splitC c (s.data.toList.drop p) ∧ ∀ x ∈ (s.data.toList.drop p).take (k - p), x ≠ c)) (fun _ _ i _ => s.size - (intOf i).toNat)
  case atStart => exact ⟨0, 0, [], by omega, by omega, by simp, rfl, rfl, bRefl W, World.ownsRow_nil _ _ _ _, Lib.hid ⟨rfl, fun x hx => by simp at hx⟩⟩
  case round =>
    obtain ⟨k, p, ss, hk, hpk, hsk, rfl, rfl, hb, hown, hp⟩ := hrel
    have i0 : (0 : Int) ≤ (k : Int) := by omega
    have j0 : (0 : Int) ≤ (p : Int) := by omega
    have j1 : (p : Int) ≤ (k : Int) := by omega
    have j2 : (p : Int) ≤ (s.size : Int) := by omega
    have j3 : (k : Int) ≤ (s.size : Int) := by omega
    have h63 : ss.length + 1 ≤ maxLen := by unfold maxLen; omega
    have hby : (ss.length + 1) * 16 ≤ 140737488355328 := by omega
    have hbs := hb.size
    by_cases hlt : (k : Int) < (s.size : Int)
    · obtain ⟨u, hu⟩ : ∃ u, s[k]'(by omega) = u := ⟨_, rfl⟩
      have hat := by_at _ hu
      by_cases hg : u = c
      · obtain ⟨y, hy⟩ : ∃ y, Hid (s.extract p k = y) := ⟨_, Lib.hid rfl⟩
        have hone : ∀ z ∈ [Value.string y], z.oneCell' = true := by intro z hz; simp at hz; rcases hz with rfl; rfl
        have hnx : Hid (splitC c s.data.toList = bys (ss ++ [y]) ++ splitC c (s.data.toList.drop (k + 1)) ∧ ∀ x ∈ (s.data.toList.drop (k + 1)).take (k + 1 - (k + 1)), x ≠ c) := Lib.hid ⟨by
          have e : s.data.toList.drop p = (s.data.toList.drop p).take (k - p) ++ c :: s.data.toList.drop (k + 1) := by
            obtain ⟨h1, h2⟩ := List.getElem?_eq_some_iff.1 hat
            conv => lhs; rw [← List.take_append_drop (k - p) (s.data.toList.drop p), List.drop_drop, show p + (k - p) = k by omega, List.drop_eq_getElem_cons h1, h2, hg]
          rw [hp.out.1, e, splitC_cons hp.out.2, ← hy.out]
          unfold bys
          rw [List.map_append, List.append_assoc, ← cut_list]
          rfl, fun x hx => by simp at hx⟩
        subst hg
        have hyo := hy.out
        clear hat hp
        go_wp2_with (at_builtin; refine wpList_append1G wr [.string y] (.tmp 19) (.tmp 24) 48 W.heap.size 9 (.string ⟨#[]⟩) 1 16 _ ss.length (strs ss) rfl rfl Tryz.underlying48 str_info rfl (by omega) rfl hown rfl rfl hone h63 hby hbs ?_; intro v' w' hown4 hg4)
        have b4 := hg4.below hown hbs
        exact ⟨⟨k + 1, k + 1, ss ++ [y], by omega, by omega, by simp; omega, by go_num, by go_num, hb.trans b4, by rw [List.length_append]; unfold strs at hown4 ⊢; rw [List.map_append]; exact hown4, hnx⟩, by simp [intOf]; omega⟩
      · have hnx : Hid (splitC c s.data.toList = bys ss ++ splitC c (s.data.toList.drop p) ∧ ∀ x ∈ (s.data.toList.drop p).take (k + 1 - p), x ≠ c) := Lib.hid ⟨hp.out.1, fun x hx => by
          have h1 : (s.data.toList.drop p)[k - p]? = some u := by rw [List.getElem?_drop, show p + (k - p) = k by omega]; exact hat
          obtain ⟨h2, h3⟩ := List.getElem?_eq_some_iff.1 h1
          rw [show k + 1 - p = (k - p) + 1 by omega, List.take_succ_eq_append_getElem h2, h3] at hx
          rcases List.mem_append.1 hx with hx | hx
          · exact hp.out.2 x hx
          · rw [List.mem_singleton.1 hx]; exact hg⟩
        have g1 := u8_ne hg
        clear hat hp hg
        go_wp2_with fail
        exact ⟨⟨k + 1, p, ss, by omega, by omega, by omega, by go_num, rfl, hb, hown, hnx⟩, by simp [intOf]; omega⟩
    · obtain ⟨y, hy⟩ : ∃ y, Hid (s.extract p s.size = y) := ⟨_, Lib.hid rfl⟩
      have hone : ∀ z ∈ [Value.string y], z.oneCell' = true := by intro z hz; simp at hz; rcases hz with rfl; rfl
      have hnx : Hid (bys (ss ++ [y]) = splitC c s.data.toList) := Lib.hid (by
        have e : (s.data.toList.drop p).take (k - p) = s.data.toList.drop p := List.take_of_length_le (by rw [List.length_drop]; omega)
        have h2 := hp.out.2
        rw [e] at h2
        rw [hp.out.1, splitC_none h2, ← hy.out]
        unfold bys
        rw [List.map_append, List.map_cons, List.map_nil, cut_list, List.take_of_length_le (by rw [List.length_drop]; omega)])
      have hyo := hy.out
      clear hp
      go_wp2_with (at_builtin; refine wpList_append1G wr [.string y] (.tmp 28) (.tmp 32) 48 W.heap.size 9 (.string ⟨#[]⟩) 1 16 _ ss.length (strs ss) rfl rfl Tryz.underlying48 str_info rfl (by omega) rfl hown rfl rfl hone h63 hby hbs ?_; intro v' w' hown4 hg4)
      have b4 := hg4.below hown hbs
      go_ret
      exact ⟨_, ss ++ [y], rfl, hnx.out, by rw [List.length_append]; unfold strs at hown4 ⊢; rw [List.map_append]; exact hown4, hb.trans b4⟩
def NumsR (o : Option (List Int)) (W : World) (e : Ending) (w' : World) : Prop :=
  (match o with | some ns => ∃ v, e = .returned (.tuple #[v, .bool true]) ∧ w'.ownsRow W.heap.size 3 1 v ns.length (ints ns) | none => e = .returned (.tuple #[.slice none 0 0, .bool false])) ∧ Below W.heap.size W w'
theorem NumsR.no {o : Option (List Int)} {w w' : World} (h : o = none) (b : Below w.heap.size w w') : NumsR o w (.returned (.tuple #[.slice none 0 0, .bool false])) w' := by rw [h]; exact ⟨rfl, b⟩
theorem NumsR.yes {o : Option (List Int)} {ns : List Int} {w w' : World} {v : Value} (h : o = some ns) (hv : w'.ownsRow w.heap.size 3 1 v ns.length (ints ns)) (b : Below w.heap.size w w') : NumsR o w (.returned (.tuple #[v, .bool true])) w' := by rw [h]; exact ⟨⟨v, rfl, hv⟩, b⟩
theorem rp_numbers (A : Option Addr) (c : Nat) (l : List ByteArray) (W : World) (hA : Rd W W.heap.size 1 A l.length (strs l)) (hl : ∀ s ∈ l, s.size ≤ 1000000) (hn : l.length ≤ 1000000) :
    Calls Tryz.prog 59 #[.slice A l.length c] W (NumsR (numsO (bys l)) W) := by
  obtain ⟨o, hv⟩ : ∃ o, Hid (numsO (bys l) = o) := ⟨_, Lib.hid rfl⟩
  rw [hv.out]
  go_enter Tryz.func59, Tryz.ntmps59
  go_wp2_with fail
  go_loopw [4, 5] (fun v i wr => ∃ (k : Nat) (ns : List Int), k ≤ l.length ∧ i = .int .i64 k ∧ ns.length = k ∧ Below W.heap.size W wr ∧ Hid (numsO ((bys l).take k) = some ns) ∧ wr.ownsRow W.heap.size 3 1 v k (ints ns)) (fun _ i _ => l.length - (intOf i).toNat)
  case atStart => exact ⟨0, [], Nat.zero_le _, rfl, rfl, bRefl W, Lib.hid (by rw [List.take_zero]; rfl), World.ownsRow_nil _ _ _ _⟩
  case round =>
    obtain ⟨k, ns, hk, rfl, hnk, hb, hns, hown⟩ := hrel
    by_cases hlt : k < l.length
    · obtain ⟨x, hx⟩ : ∃ x, Hid (l[k]? = some x) := ⟨_, Lib.hid (List.getElem?_eq_getElem hlt)⟩
      obtain ⟨b, off, rfl, hbb, d0⟩ := Str_at (hA.below hb) hlt hx.out
      have hxm : x ∈ l := List.mem_of_getElem? hx.out
      have hbx : Hid ((bys l)[k]? = some x.data.toList) := Lib.hid (by unfold bys; rw [List.getElem?_map, hx.out]; rfl)
      have q1 := rp_number x wr (hl x hxm)
      have hbs : W.heap.size ≤ wr.heap.size := hb.size
      have i0 : (0 : Int) ≤ (k : Int) := by omega
      have i1 : (k : Int) < (l.length : Int) := by omega
      have hro := refOk_iff (s := x.data.toList)
      cases hxn : refOk x.data.toList with
      | false =>
        rw [hxn] at q1 hro
        have hno : Hid (∀ w', Below W.heap.size W w' → NumsR o W (.returned (.tuple #[.slice none 0 0, .bool false])) w') := Lib.hid (fun w' b => NumsR.no (hv.out.symm.trans (numsO_no hro (List.mem_of_getElem? hbx.out))) b)
        clear hro hxn
        generalize refN x.data.toList = n at *
        go_wp2_with (go_at_call 103; (with_reducible refine q1.mono ?_); rintro e w2 ⟨rfl, b2⟩)
        go_ret2
        exact hno.out _ (bCall hb b2)
      | true =>
        rw [hxn] at q1 hro
        have hns2 : Hid (numsO ((bys l).take (k + 1)) = some (ns ++ [refN x.data.toList])) := Lib.hid (by
          obtain ⟨hk2, hx2⟩ := List.getElem?_eq_some_iff.1 hbx.out
          rw [List.take_succ_eq_append_getElem hk2, hx2]
          exact numsO_snoc hns.out hro)
        clear hro hxn
        generalize refN x.data.toList = n at *
        have h63 : k + 1 ≤ maxLen := by unfold maxLen; omega
        have hby : (k + 1) * 8 ≤ 140737488355328 := by omega
        have hone : ∀ u ∈ [Value.int .i64 n], u.oneCell' = true := by intro u hu; simp at hu; rcases hu with rfl; rfl
        go_wp2_with (first | (go_at_call 103; (with_reducible refine q1.mono ?_); rintro e w2 ⟨rfl, b2⟩; have hown2 := ownsRow_keep hown b2; have hbs2 := Nat.le_trans hbs b2.size) | (at_builtin; refine wpList_append1G _ [.int .i64 n] (.tmp 24) (.tmp 26) 25 W.heap.size 3 (.int .i64 0) 1 8 _ k (ints ns) rfl rfl Tryz.underlying25 int_info rfl (by omega) rfl hown2 rfl rfl hone h63 hby hbs2 ?_; intro v' w' hown4 hg4))
        have b4 := hg4.below hown2 hbs2
        exact ⟨⟨k + 1, ns ++ [n], by omega, by go_num, by simp [hnk], (bCall hb b2).trans b4, hns2, by unfold ints at hown4 ⊢; rw [List.map_append]; exact hown4⟩, by simp [intOf]; omega⟩
    · obtain rfl : k = l.length := by omega
      have hns3 : Hid (o = some ns) := Lib.hid (by have := hns.out; rw [List.take_of_length_le (by rw [show (bys l).length = l.length from List.length_map ..]; omega)] at this; rw [← hv.out, this])
      clear hns
      go_wp2_with fail
      go_ret2
      exact NumsR.yes hns3.out (by rw [hnk]; exact hown) hb
theorem below_setRowP {B g : Nat} {w w' : World} (h : Below B w w') (hg : B ≤ g) (X : Array Value) : Below B w (w'.setRow g X) :=
  ⟨h.os, h.tape, h.output, by have := h.size; simpa [World.setRow] using this, fun k hk => (setRow_other w' g k X (by omega)).trans (h.block k hk)⟩
end Go.Proofs.YtmbopkcmbiommaaGreatDoor
