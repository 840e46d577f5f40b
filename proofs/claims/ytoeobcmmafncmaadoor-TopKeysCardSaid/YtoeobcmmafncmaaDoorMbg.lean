/-
  epochs: Recover; walked: no shares, and good ones.
-/
import Derived.Test.YtoeobcmmafncmaaDoorMbf
namespace Go.Proofs.YtoeobcmmafncmaaDoor
open Go.RowKit

theorem ep_recover_nil (W : World) : Calls Tryd.prog 4 #[.slice none 0 0] W (Ret (.tuple #[.int .i64 0, .int .i64 471]) W) := by
  go_enter Tryd.func4, Tryd.ntmps4
  go_wp2_with fail
  go_ret2
  exact ⟨rfl, bAl (bRefl W) _⟩
/-- The power that stands for the inverse. -/
def pwQ (b : Nat) : Nat := b ^ expQ % Qn
theorem pwQ_lt (b : Nat) : pwQ b < 1073741789 := Nat.mod_lt _ (by decide)
theorem ep_powQ (b : Nat) (hb : b < 1073741789) (W : World) : Calls Tryd.prog 20 #[.int .i64 b, .int .i64 1073741787] W (Same (.int .i64 (pwQ b : Nat)) W) := by
  have h := ep_power b expQ hb (by decide) W
  have e : ((expQ : Nat) : Int) = 1073741787 := rfl
  rw [e] at h
  unfold pwQ
  exact h
/-- Who has been met. -/
def metA (pre : List Nat) : Array Value := ((List.range 25).map fun j => Value.bool (decide (j ∈ pre))).toArray
theorem metA_at {pre : List Nat} {x : Nat} (h : x < 25) : (metA pre)[x]? = some (.bool (decide (x ∈ pre))) := by
  unfold metA
  rw [List.getElem?_toArray, List.getElem?_map, List.getElem?_range h]; rfl
theorem metA_set {pre : List Nat} {x : Nat} (h : x < 25) : (metA pre).setIfInBounds x (.bool true) = metA (pre ++ [x]) := by
  apply Array.ext_getElem?
  intro i
  rw [Array.getElem?_setIfInBounds]
  by_cases hi : i < 25
  · rw [metA_at hi, metA_at hi]
    split
    · rename_i e; subst e
      rw [if_pos (by simpa [metA] using h)]
      simp
    · rename_i e
      have : decide (i ∈ pre ++ [x]) = decide (i ∈ pre) := decide_eq_decide.2 (by simp; intro e2; exact absurd e2.symm e)
      rw [this]
  · rw [if_neg (by omega)]
    have h25 : ∀ p, (metA p).size = 25 := fun p => by simp [metA]
    rw [Array.getElem?_eq_none (by rw [h25]; omega), Array.getElem?_eq_none (by rw [h25]; omega)]
theorem metA_nil : metA [] = #[.bool false, .bool false, .bool false, .bool false, .bool false, .bool false, .bool false, .bool false, .bool false, .bool false, .bool false, .bool false, .bool false, .bool false, .bool false, .bool false, .bool false, .bool false, .bool false, .bool false, .bool false, .bool false, .bool false, .bool false, .bool false] := rfl
theorem abvN_cons (x t : Nat) (S : List Nat) (a : Nat) : abvN x (t :: S) a = abvN x S (if t = x then a else a * t % Qn) := rfl
theorem belN_cons (x t : Nat) (S : List Nat) (b : Nat) : belN x (t :: S) b = belN x S (if t = x then b else b * modQ ((t : Int) - x) % Qn) := rfl
theorem recN_cons (pw : Nat → Nat) (S : List Nat) (x v : Nat) (l : List (Nat × Nat)) (s : Nat) : recN pw S ((x, v) :: l) s = recN pw S l ((s + abvN x S v * pw (belN x S 1)) % Qn) := rfl
theorem recN_lt {pw : Nat → Nat} (S : List Nat) : ∀ (l : List (Nat × Nat)) (s : Nat), s < 1073741789 → recN pw S l s < 1073741789
  | [], _, h => h
  | (x, v) :: l, s, _ => recN_lt S l _ (Nat.mod_lt _ (by decide))
set_option maxHeartbeats 1000000 in
theorem ep_recover (A : Option Addr) (c : Nat) (l : List (Nat × Nat)) (W : World) (hA : Rd W W.heap.size 2 A l.length (l.flatMap shC)) (h0 : 0 < l.length) (hn : l.length ≤ 1000) (hx : ∀ p ∈ l, (1 ≤ p.1 ∧ p.1 ≤ 24) ∧ p.2 < 1073741789) (hd : (l.map fun p => p.1).Nodup) :
    Calls Tryd.prog 4 #[.slice A l.length c] W (Ret (.tuple #[.int .i64 (recN pwQ (l.map fun p => p.1) l 0 : Nat), .int .i64 0]) W) := by
  obtain ⟨R, hR⟩ : ∃ R, Hid (recN pwQ (l.map fun p => p.1) l 0 = R) := ⟨_, Lib.hid rfl⟩
  rw [hR.out]
  have hz : ((l.length : Int) == 0) = false := by rw [beq_eq_false_iff_ne]; omega
  go_enter Tryd.func4, Tryd.ntmps4
  go_upto_region 4 with fail
  have BM := Blk.new W 75 (metA []) _ rfl
  have hb := bAl (bRefl W) (.cells (metA []) 75)
  rw [metA_nil] at hb BM
  generalize W.alloc (.cells #[.bool false, .bool false, .bool false, .bool false, .bool false, .bool false, .bool false, .bool false, .bool false, .bool false, .bool false, .bool false, .bool false, .bool false, .bool false, .bool false, .bool false, .bool false, .bool false, .bool false, .bool false, .bool false, .bool false, .bool false, .bool false] 75) = w1 at *
  rw [← metA_nil] at BM
  go_wp2_with fail
  go_loopw [2, 18] (fun u i wr => ∃ k : Nat, k ≤ l.length ∧ u = .int .i64 0 ∧ i = .int .i64 k ∧ Below W.heap.size W wr ∧ Blk wr W.heap.size 75 (metA ((l.take k).map fun p => p.1))) (fun _ i _ => l.length - (intOf i).toNat)
  case atStart => exact ⟨0, Nat.zero_le _, rfl, rfl, hb, BM⟩
  case round =>
    clear hb BM
    obtain ⟨k, hk, rfl, rfl, hb, BM⟩ := hrel
    by_cases hlt : k < l.length
    · obtain ⟨p, hp⟩ : ∃ p, Hid (l[k]? = some p) := ⟨_, Lib.hid (List.getElem?_eq_getElem hlt)⟩
      obtain ⟨b, off, rfl, hbb, d0, d1⟩ := sh_at (hA.below hb) hlt hp.out
      obtain ⟨⟨x1, x2⟩, x3⟩ := hx p (List.mem_of_getElem? hp.out)
      have hfree : p.1 ∉ (l.take k).map fun p => p.1 := by
        intro hm
        obtain ⟨hk2, e⟩ := List.getElem?_eq_some_iff.1 hp.out
        have h1 := List.take_append_drop k l
        rw [← h1, List.map_append] at hd
        have h2 := (List.nodup_append.1 hd).2.2 _ hm p.1 (by rw [List.drop_eq_getElem_cons hk2, e]; simp)
        exact h2 rfl
      have hsn : Hid ((l.take (k + 1)).map (fun p => p.1) = (l.take k).map (fun p => p.1) ++ [p.1]) := Lib.hid (by
        obtain ⟨hk2, e⟩ := List.getElem?_eq_some_iff.1 hp.out
        rw [List.take_succ_eq_append_getElem hk2, List.map_append, e]; rfl)
      generalize (l.take k).map (fun p => p.1) = pre at *
      obtain ⟨x, v⟩ := p
      dsimp only at *
      have m0 : wr.cell? ⟨W.heap.size, x, none⟩ = some (.bool false) := by
        rw [BM.cell, metA_at (by omega), decide_eq_false hfree]
      have m1 := BM.frozen x
      have hs := BM.lt
      replace hd := Lib.hid hd
      clear hfree
      go_wp2_with fail
      have BM2 := (BM.set_ x (.bool true)).alloc (.cells #[.int .i64 x, .int .i64 v] 63)
      rw [metA_set (by omega)] at BM2
      exact ⟨⟨k + 1, by omega, rfl, by go_num, bAl (bSet hb (p := ⟨W.heap.size, x, none⟩) (Nat.le_refl _) _) _, by rw [hsn.out]; exact BM2⟩, by simp [intOf]; omega⟩
    · clear BM
      generalize hS : l.map (fun p => p.1) = S at *
      replace hS := Lib.hid hS
      replace hd := Lib.hid hd
      go_wp2_with fail
      go_loopw [2, 52] (fun u i wr => ∃ j s : Nat, j ≤ l.length ∧ i = .int .i64 j ∧ u = .int .i64 s ∧ s < 1073741789 ∧ Below W.heap.size W wr ∧ Hid (recN pwQ S (l.drop j) s = R)) (fun _ i _ => l.length - (intOf i).toNat)
      case atStart => exact ⟨0, 0, Nat.zero_le _, rfl, rfl, by omega, hb, by rw [List.drop_zero]; exact hR⟩
      case round =>
        clear hb hlt hk hR
        obtain ⟨j, s, hj, rfl, rfl, hs, hb, hR⟩ := hrel
        by_cases hlt : j < l.length
        · obtain ⟨p, hp⟩ : ∃ p, Hid (l[j]? = some p) := ⟨_, Lib.hid (List.getElem?_eq_getElem hlt)⟩
          obtain ⟨b, off, rfl, hbb, d0, d1⟩ := sh_at (hA.below hb) hlt hp.out
          obtain ⟨⟨x1, x2⟩, x3⟩ := hx p (List.mem_of_getElem? hp.out)
          obtain ⟨x, v⟩ := p
          dsimp only at *
          have hR2 : Hid (recN pwQ S (l.drop (j + 1)) ((s + abvN x S v * pwQ (belN x S 1)) % Qn) = R) := Lib.hid (by
            have := hR.out
            obtain ⟨hk2, e⟩ := List.getElem?_eq_some_iff.1 hp.out
            rw [List.drop_eq_getElem_cons hk2, e, recN_cons] at this
            exact this)
          clear hR
          go_wp2_with fail
          have BP := Blk.new wr 63 #[.int .i64 x, .int .i64 v] _ rfl
          have hb2 := bAl hb (.cells #[.int .i64 x, .int .i64 v] 63)
          have hgs := hb.size
          generalize wr.alloc (.cells #[.int .i64 x, .int .i64 v] 63) = w2 at *
          generalize wr.heap.size = g at *
          clear d0 d1 hb
          go_loopw [9, 10, 60] (fun a z i wr => ∃ m p q : Nat, m ≤ l.length ∧ i = .int .i64 m ∧ a = .int .i64 p ∧ z = .int .i64 q ∧ p < 1073741789 ∧ q < 1073741789 ∧ Below W.heap.size W wr ∧ Blk wr g 63 #[.int .i64 x, .int .i64 v] ∧ Hid (abvN x (S.drop m) p = abvN x S v ∧ belN x (S.drop m) q = belN x S 1)) (fun _ _ i _ => l.length - (intOf i).toNat)
          case atStart => exact ⟨0, v, 1, Nat.zero_le _, rfl, rfl, rfl, x3, by omega, hb2, BP, by rw [List.drop_zero]; exact Lib.hid ⟨rfl, rfl⟩⟩
          case round =>
            clear hb2 BP
            obtain ⟨m, p, q, hm, rfl, rfl, rfl, hp2, hq2, hb, BP, hAB⟩ := hrel
            by_cases hlt2 : m < l.length
            · obtain ⟨y, hy⟩ : ∃ y, Hid (l[m]? = some y) := ⟨_, Lib.hid (List.getElem?_eq_getElem hlt2)⟩
              obtain ⟨b2, off2, hA2, hbb2, d0, d1⟩ := sh_at (hA.below hb) hlt2 hy.out
              injection hA2 with hA2
              injection hA2 with e1 e2
              subst e1; subst e2
              obtain ⟨⟨y1, y2⟩, y3⟩ := hx y (List.mem_of_getElem? hy.out)
              obtain ⟨t, u⟩ := y
              dsimp only at *
              have f0 : wr.cell? ⟨g, 0, none⟩ = some (.int .i64 x) := BP.cell 0
              have f1 : wr.cell? ⟨g, 1, none⟩ = some (.int .i64 v) := BP.cell 1
              have hSm : Hid (S.drop m = t :: S.drop (m + 1)) := Lib.hid (by
                have hSe := hS.out
                subst hSe
                obtain ⟨hk2, e⟩ := List.getElem?_eq_some_iff.1 hy.out
                rw [List.drop_eq_getElem_cons (by simpa using hk2)]
                simp [e])
              have hbs := BP.lt
              by_cases he : t = x
              · subst he
                have hAB2 : Hid (abvN t (S.drop (m + 1)) p = abvN t S v ∧ belN t (S.drop (m + 1)) q = belN t S 1) := Lib.hid (by
                  have h := hAB.out
                  rw [hSm.out] at h
                  rw [abvN_cons, belN_cons, if_pos rfl, if_pos rfl] at h
                  exact h)
                clear hAB
                go_wp2_with fail
                exact ⟨⟨m + 1, p, q, by omega, by go_num, rfl, rfl, hp2, hq2, bAl hb _, BP.alloc _, hAB2⟩, by simp [intOf]; omega⟩
              · have he2 : ((t : Int) == x) = false := by rw [beq_eq_false_iff_ne]; omega
                have hAB2 : Hid (abvN x (S.drop (m + 1)) (p * t % Qn) = abvN x S v ∧ belN x (S.drop (m + 1)) (q * modQ ((t : Int) - x) % Qn) = belN x S 1) := Lib.hid (by
                  have h := hAB.out
                  rw [hSm.out] at h
                  rw [abvN_cons, belN_cons, if_neg he, if_neg he] at h
                  exact h)
                have qm := ep_mod ((t : Int) - x) (wr.alloc (.cells #[.int .i64 t, .int .i64 u] 63))
                have g2 := modQ_lt ((t : Int) - x)
                generalize modQ ((t : Int) - x) = z at *
                have m1 := mul_q hp2 (show t < 1073741789 by omega)
                have m2 := mul_q hq2 g2
                have k1 := Lib.hid (cast_mulmod p t)
                have k2 := Lib.hid (cast_mulmod q z)
                clear hAB
                go_wp2_with fail
                (with_reducible refine qm.mono ?_)
                rintro e w3 ⟨rfl, rfl⟩
                clear qm
                go_wp2_with fail
                exact ⟨⟨m + 1, p * t % Qn, q * z % Qn, by omega, by go_num, by rw [k1.out], by rw [k2.out], Nat.mod_lt _ (by decide), Nat.mod_lt _ (by decide), bAl hb _, BP.alloc _, hAB2⟩, by simp [intOf]; omega⟩
            · obtain rfl : m = l.length := by omega
              have hSl : Hid (S.drop l.length = []) := Lib.hid (by rw [← hS.out]; simp)
              have hAB2 : Hid (p = abvN x S v ∧ q = belN x S 1) := Lib.hid (by
                have h := hAB.out
                rw [hSl.out] at h
                exact h)
              have qp := ep_powQ q hq2 wr
              have hR3 : Hid (recN pwQ S (l.drop (j + 1)) ((s + p * pwQ q) % Qn) = R) := Lib.hid (by rw [hAB2.out.1, hAB2.out.2]; exact hR2.out)
              have g3 := pwQ_lt q
              generalize pwQ q = z at *
              have m1 := mul_q hp2 g3
              have k1 : Hid (((s : Int) + (p : Int) * z) % 1073741789 = (((s + p * z) % Qn : Nat) : Int)) := Lib.hid (by rw [Int.natCast_emod, Int.natCast_add, Int.natCast_mul]; rfl)
              clear hAB hAB2 hR2
              go_wp2_with fail
              (with_reducible refine qp.mono ?_)
              rintro e w3 ⟨rfl, rfl⟩
              clear qp
              go_wp2_with fail
              exact ⟨⟨j + 1, (s + p * z) % Qn, by omega, by go_num, by rw [k1.out], Nat.mod_lt _ (by decide), hb, hR3⟩, by simp [intOf]; omega⟩
        · obtain rfl : j = l.length := by omega
          have hsR : Hid (s = R) := Lib.hid (by have := hR.out; rw [List.drop_length] at this; exact this)
          clear hR
          go_wp2_with fail
          go_ret2
          exact ⟨ret_ii (by rw [hsR.out]) rfl, hb⟩
end Go.Proofs.YtoeobcmmafncmaaDoor
