/-
  Plain: lines that are wrong wherever they stand; the examples.
-/
import Derived.Test.YtmbopkcmbiommaaGreatDoorMac
import Derived.Test.YtmbopkcmbiommaaGreatDoorMbe
import Derived.Test.YtmbopkcmbiommaaGreatDoorMbc
namespace Go.Proofs.YtmbopkcmbiommaaGreatDoor
open Go

theorem bad_of {a f : By} {rest : List By} (hs : splitC 32 a = f :: rest) (hno : ∀ x ∈ a, x ≠ 10) (hr : rowN f = 0 ∨ ∀ w, readR w (rowN f) rest = none) : badL (a ++ [10]) := by
  refine ⟨fun st => ?_, a, rfl, hno⟩
  unfold stepW
  rw [cutNl_row]
  simp only
  rw [hs]
  simp only
  split
  · rename_i hf
    rcases hr with hr | hr
    · rw [hr] at hf
      have := (follows_row hf).1
      omega
    · rw [hr]; rfl
  · rfl
def odd0 : By := []
theorem odd0_bad : badL (odd0 ++ [10]) := bad_of (f := []) (rest := []) (by decide +kernel) (by decide +kernel) (.inl (by decide +kernel))
def odd1 : By := [32]
theorem odd1_bad : badL (odd1 ++ [10]) := bad_of (f := []) (rest := [[]]) (by decide +kernel) (by decide +kernel) (.inl (by decide +kernel))
def odd2 : By := [120]
theorem odd2_bad : badL (odd2 ++ [10]) := bad_of (f := [120]) (rest := []) (by decide +kernel) (by decide +kernel) (.inl (by decide +kernel))
def odd3 : By := [119, 111, 114, 108, 100, 32, 48, 32, 48, 32, 48]
theorem odd3_bad : badL (odd3 ++ [10]) := bad_of (f := [119, 111, 114, 108, 100]) (rest := [[48], [48], [48]]) (by decide +kernel) (by decide +kernel) (.inr (fun _ => rfl))
def odd4 : By := [119, 111, 114, 108, 100, 32, 48, 32, 48, 32, 48, 32, 48, 48, 48, 48, 48, 48, 48, 48, 48, 48, 48, 48, 48, 48, 48, 48, 48, 48, 48, 48, 48, 48, 48, 48, 48, 48, 48, 48, 48, 48, 48, 48, 48, 48, 48, 48, 48, 48, 48, 48, 48, 48, 48, 48, 48, 48, 48, 48, 48, 48, 48, 48, 48, 48, 48, 48, 48, 48, 48, 48, 48, 48, 48]
theorem odd4_bad : badL (odd4 ++ [10]) := bad_of (f := [119, 111, 114, 108, 100]) (rest := [[48], [48], [48], [48, 48, 48, 48, 48, 48, 48, 48, 48, 48, 48, 48, 48, 48, 48, 48, 48, 48, 48, 48, 48, 48, 48, 48, 48, 48, 48, 48, 48, 48, 48, 48, 48, 48, 48, 48, 48, 48, 48, 48, 48, 48, 48, 48, 48, 48, 48, 48, 48, 48, 48, 48, 48, 48, 48, 48, 48, 48, 48, 48, 48, 48, 48]]) (by decide +kernel) (by decide +kernel) (.inr (fun _ => rfl))
def odd5 : By := [119, 111, 114, 108, 100, 32, 48, 32, 48, 32, 48, 32, 65, 48, 48, 48, 48, 48, 48, 48, 48, 48, 48, 48, 48, 48, 48, 48, 48, 48, 48, 48, 48, 48, 48, 48, 48, 48, 48, 48, 48, 48, 48, 48, 48, 48, 48, 48, 48, 48, 48, 48, 48, 48, 48, 48, 48, 48, 48, 48, 48, 48, 48, 48, 48, 48, 48, 48, 48, 48, 48, 48, 48, 48, 48, 48]
theorem odd5_bad : badL (odd5 ++ [10]) := bad_of (f := [119, 111, 114, 108, 100]) (rest := [[48], [48], [48], [65, 48, 48, 48, 48, 48, 48, 48, 48, 48, 48, 48, 48, 48, 48, 48, 48, 48, 48, 48, 48, 48, 48, 48, 48, 48, 48, 48, 48, 48, 48, 48, 48, 48, 48, 48, 48, 48, 48, 48, 48, 48, 48, 48, 48, 48, 48, 48, 48, 48, 48, 48, 48, 48, 48, 48, 48, 48, 48, 48, 48, 48, 48, 48]]) (by decide +kernel) (by decide +kernel) (.inr (fun _ => rfl))
def odd7 : By := [99, 108, 97, 115, 115, 32, 49]
theorem odd7_bad : badL (odd7 ++ [10]) := bad_of (f := [99, 108, 97, 115, 115]) (rest := [[49]]) (by decide +kernel) (by decide +kernel) (.inr (fun _ => rfl))
def odd8 : By := [116, 105, 101, 114, 32, 49, 32, 50, 32, 51]
theorem odd8_bad : badL (odd8 ++ [10]) := bad_of (f := [116, 105, 101, 114]) (rest := [[49], [50], [51]]) (by decide +kernel) (by decide +kernel) (.inr (fun _ => rfl))
def odd9 : By := [108, 105, 110, 101, 32, 49, 32, 50, 32, 48]
theorem odd9_bad : badL (odd9 ++ [10]) := bad_of (f := [108, 105, 110, 101]) (rest := [[49], [50], [48]]) (by decide +kernel) (by decide +kernel) (.inr (fun _ => rfl))
def odd10 : By := [108, 105, 110, 101, 32, 49, 32, 50, 32, 50, 32, 48, 32, 49]
theorem odd10_bad : badL (odd10 ++ [10]) := bad_of (f := [108, 105, 110, 101]) (rest := [[49], [50], [50], [48], [49]]) (by decide +kernel) (by decide +kernel) (.inr (fun _ => rfl))
def odd11 : By := [114, 117, 108, 101, 32, 49, 32, 50]
theorem odd11_bad : badL (odd11 ++ [10]) := bad_of (f := [114, 117, 108, 101]) (rest := [[49], [50]]) (by decide +kernel) (by decide +kernel) (.inr (fun _ => rfl))
def odd12 : By := [103, 97, 112, 32, 49, 32, 50, 32, 51]
theorem odd12_bad : badL (odd12 ++ [10]) := bad_of (f := [103, 97, 112]) (rest := [[49], [50], [51]]) (by decide +kernel) (by decide +kernel) (.inr (fun _ => rfl))
def odd13 : By := [111, 114, 100, 101, 114, 32, 49, 32, 50, 32, 51, 32, 52, 32, 53, 32, 54, 32, 55, 32, 56, 32, 50, 32, 48]
theorem odd13_bad : badL (odd13 ++ [10]) := bad_of (f := [111, 114, 100, 101, 114]) (rest := [[49], [50], [51], [52], [53], [54], [55], [56], [50], [48]]) (by decide +kernel) (by decide +kernel) (.inr (fun _ => rfl))
def odd14 : By := [111, 114, 100, 101, 114, 32, 49, 32, 50, 32, 51, 32, 52, 32, 53, 32, 54, 32, 55, 32, 56, 32, 49]
theorem odd14_bad : badL (odd14 ++ [10]) := bad_of (f := [111, 114, 100, 101, 114]) (rest := [[49], [50], [51], [52], [53], [54], [55], [56], [49]]) (by decide +kernel) (by decide +kernel) (.inr (fun _ => rfl))
def odd15 : By := [101, 110, 116, 114, 121, 32, 49, 32, 50, 32, 51, 32, 52, 32, 53, 32, 54, 32, 55]
theorem odd15_bad : badL (odd15 ++ [10]) := bad_of (f := [101, 110, 116, 114, 121]) (rest := [[49], [50], [51], [52], [53], [54], [55]]) (by decide +kernel) (by decide +kernel) (.inr (fun _ => rfl))
def odd16 : By := [115, 101, 99, 114, 101, 116, 32, 48, 52]
theorem odd16_bad : badL (odd16 ++ [10]) := bad_of (f := [115, 101, 99, 114, 101, 116]) (rest := [[48, 52]]) (by decide +kernel) (by decide +kernel) (.inr (fun _ => rfl))
def odd17 : By := [115, 101, 99, 114, 101, 116, 32, 49, 48, 57, 57, 53, 49, 49, 54, 50, 55, 55, 55, 55]
theorem odd17_bad : badL (odd17 ++ [10]) := bad_of (f := [115, 101, 99, 114, 101, 116]) (rest := [[49, 48, 57, 57, 53, 49, 49, 54, 50, 55, 55, 55, 55]]) (by decide +kernel) (by decide +kernel) (.inr (fun _ => rfl))
def odd18 : By := [115, 101, 99, 114, 101, 116]
theorem odd18_bad : badL (odd18 ++ [10]) := bad_of (f := [115, 101, 99, 114, 101, 116]) (rest := []) (by decide +kernel) (by decide +kernel) (.inr (fun _ => rfl))
def odd19 : By := [102, 97, 117, 108, 116, 32, 49, 32, 50, 32, 51]
theorem odd19_bad : badL (odd19 ++ [10]) := bad_of (f := [102, 97, 117, 108, 116]) (rest := [[49], [50], [51]]) (by decide +kernel) (by decide +kernel) (.inr (fun _ => rfl))
def odd20 : By := [102, 97, 117, 108, 116, 32, 49, 32, 50, 32, 51, 32, 52, 32]
theorem odd20_bad : badL (odd20 ++ [10]) := bad_of (f := [102, 97, 117, 108, 116]) (rest := [[49], [50], [51], [52], []]) (by decide +kernel) (by decide +kernel) (.inr (fun _ => rfl))
theorem odd6_bad {t : By} (h : ∃ a, t = a ++ [10] ∧ ∀ x ∈ a, x ≠ 10) : badL (32 :: t) := by
  obtain ⟨a, rfl, ha⟩ := h
  refine bad_of (a := 32 :: a) (f := []) (rest := splitC 32 a) ?_ (fun x hx => ?_) (.inl (by decide +kernel))
  · conv => lhs; unfold splitC
    rw [if_pos rfl]
  · rcases List.mem_cons.1 hx with rfl | hx
    · decide
    · exact ha x hx
def zer64 : By := List.replicate 64 48
def beginT : By := [119, 111, 114, 108, 100, 32, 48, 32, 48, 32, 48, 32] ++ (zer64 ++ [10])
def oneW : Wld := { zeroW with base := [10], leg := [3] }
def allW : Wld := ⟨2, [⟨[1, 0], [7], 1, 4, [⟨5, 9, 2⟩], [⟨6, 7⟩]⟩], [10], [3], [⟨2, 8⟩], [⟨1, 2, 0, 0, 3, 40, 2, 50, [0], true, 1⟩], 3, [⟨6, 1, 2, 1, 0, 8, 1, 9⟩], -4, [70, 80], 171 :: List.replicate 31 0, [⟨1, 0, 1, 2⟩]⟩
def allT : By := [119, 111, 114, 108, 100, 32, 51, 32, 45, 52, 32, 50, 32, 97, 98] ++ (List.replicate 62 48 ++ [10, 99, 108, 97, 115, 115, 32, 49, 48, 32, 51, 10, 116, 105, 101, 114, 32, 50, 32, 56, 10, 108, 105, 110, 101, 32, 49, 32, 52, 32, 50, 32, 49, 32, 48, 32, 55, 10, 114, 117, 108, 101, 32, 53, 32, 57, 32, 50, 10, 103, 97, 112, 32, 54, 32, 55, 10, 111, 114, 100, 101, 114, 32, 49, 32, 50, 32, 48, 32, 48, 32, 51, 32, 52, 48, 32, 50, 32, 53, 48, 32, 49, 32, 49, 32, 48, 10, 101, 110, 116, 114, 121, 32, 54, 32, 49, 32, 50, 32, 49, 32, 48, 32, 56, 32, 49, 32, 57, 10, 115, 101, 99, 114, 101, 116, 32, 55, 48, 10, 115, 101, 99, 114, 101, 116, 32, 56, 48, 10, 102, 97, 117, 108, 116, 32, 49, 32, 48, 32, 49, 32, 50, 10])
def clsT : By := [99, 108, 97, 115, 115, 32, 49, 48, 32, 51, 10]
theorem ex_none : readV [] = (zeroW, 1, 590) := rfl
theorem ex_begin : readV beginT = (zeroW, 0, 210) := by
  have e : beginT = zeroW.text := by decide +kernel
  have hp : postE zeroW = 210 := by decide +kernel
  obtain ⟨k, hk, e2⟩ := fold_text (w := zeroW) ⟨rfl, fun x hx => (by cases hx), by decide, rfl⟩ (by decide +kernel)
  unfold readV
  rw [e, e2]
  simp only
  rw [if_neg (by omega), hp, if_neg (by decide)]
theorem fold_none {a b : List By} {t : By} {n : Nat} {st s : Wld × Nat} (h : foldW n st a = .inl s) (hb : stepW s t = none) : foldW n st (a ++ t :: b) = .inr (n + a.length + 1) := by
  rw [foldW_app, h]
  show (match stepW s t with | some st' => foldW (n + a.length + 1) st' b | none => .inr (n + a.length + 1)) = _
  rw [hb]
theorem begin_head : beginT = headT zeroW := by decide +kernel
theorem begin_end : ∃ a, beginT = a ++ [10] ∧ ∀ x ∈ a, x ≠ 10 := by rw [begin_head]; exact headT_ends (by decide)
theorem fold_begin : foldW 0 (zeroW, 0) [beginT] = .inl (zeroW.head zeroW, 1) := by
  rw [begin_head]
  unfold foldW
  rw [step_head (w := zeroW) (x := zeroW) (by decide) (by decide) (by decide) (by decide) rfl]
  rfl
theorem read_second {t : By} (ht : ∃ a, t = a ++ [10] ∧ ∀ x ∈ a, x ≠ 10) (hn : stepW (zeroW.head zeroW, 1) t = none) : readV (beginT ++ t) = (zeroW, 2, 590) := by
  have e : beginT ++ t = [beginT, t].flatten := by simp
  unfold readV
  rw [e, linesC_flatten (l := [beginT, t]) (fun x hx => by
    simp only [List.mem_cons, List.not_mem_nil, or_false] at hx
    rcases hx with rfl | rfl
    · exact begin_end
    · exact ht), show [beginT, t] = [beginT] ++ t :: [] from rfl, fold_none fold_begin hn]
  rfl
def zeroT : By := [119, 111, 114, 108, 100, 32, 48, 32, 48, 32, 48, 48, 32] ++ zer64
theorem zeroT_bad : badL (zeroT ++ [10]) := bad_of (f := [119, 111, 114, 108, 100]) (rest := [[48], [48], [48, 48], zer64]) (by decide +kernel) (by decide +kernel) (.inr (fun _ => rfl))
theorem ex_zero : readV (zeroT ++ [10]) = (zeroW, 1, 590) := by
  unfold readV
  rw [show linesC (zeroT ++ [10]) = [zeroT ++ [10]] by decide +kernel, show [zeroT ++ [10]] = [] ++ (zeroT ++ [10]) :: [] from rfl, fold_none (s := (zeroW, 0)) rfl (zeroT_bad.1 _)]
  rfl
def cls1 : By := [99, 108, 97, 115, 115, 32, 49, 48]
theorem cls1_bad : badL (cls1 ++ [10]) := bad_of (f := [99, 108, 97, 115, 115]) (rest := [[49, 48]]) (by decide +kernel) (by decide +kernel) (.inr (fun _ => rfl))
theorem ex_cls : readV (beginT ++ (cls1 ++ [10])) = (zeroW, 2, 590) := read_second cls1_bad.2 (cls1_bad.1 _)
def rul1 : By := [114, 117, 108, 101, 32, 49, 32, 50, 32, 51]
theorem ex_rule : readV (beginT ++ (rul1 ++ [10])) = (zeroW, 2, 590) := by
  refine read_second ⟨_, rfl, by decide +kernel⟩ ?_
  unfold stepW
  rw [cutNl_row]
  simp only
  rw [show splitC 32 rul1 = [[114, 117, 108, 101], [49], [50], [51]] by decide +kernel]
  rfl
theorem ex_cut : readV (beginT.take (beginT.length - 1)) = (zeroW, 1, 590) := by
  unfold readV
  rw [show linesC (beginT.take (beginT.length - 1)) = [beginT.take (beginT.length - 1)] by decide +kernel, show [beginT.take (beginT.length - 1)] = [] ++ (beginT.take (beginT.length - 1)) :: [] from rfl, fold_none (s := (zeroW, 0)) rfl (by
    unfold stepW
    rw [show cutNl (beginT.take (beginT.length - 1)) = none by decide +kernel])]
  rfl
theorem ex_one : printV oneW = (beginT ++ clsT, 0) := by
  unfold printV
  rw [if_pos (by decide +kernel), if_pos (by decide +kernel), show oneW.text = beginT ++ clsT by decide +kernel]
theorem ex_oneR : readV (beginT ++ clsT) = (oneW, 0, 0) := read_print (by decide) rfl ex_one
theorem ex_all : printV allW = (allT, 0) := by
  unfold printV
  rw [if_pos (by decide +kernel), if_pos (by decide +kernel), show allW.text = allT by decide +kernel]
theorem ex_allR : readV allT = (allW, 0, 0) := read_print (by decide) rfl ex_all
end Go.Proofs.YtmbopkcmbiommaaGreatDoor

/-
  Plain: short worlds; how long a text is.
-/
namespace Go.Proofs.YtmbopkcmbiommaaGreatDoor
open Go

theorem decF_len : ∀ (f u : Nat), u < 10 ^ (f + 1) → (decF f u).length ≤ f + 1
  | 0, u, h => by
    unfold decF
    simp
  | f + 1, u, h => by
    unfold decF
    split
    · simp
    · have := decF_len f (u / 10) (by rw [Nat.div_lt_iff_lt_mul (by decide)]; rw [Nat.pow_succ] at h; exact h)
      simp only [List.length_append, List.length_cons, List.length_nil]
      omega
theorem decF_more : ∀ (f g u : Nat), u < 10 ^ (f + 1) → f ≤ g → decF g u = decF f u := fun f g u h hg => by
  rw [decF_eq f u h, decF_eq g u (Nat.lt_of_lt_of_le h (Nat.pow_le_pow_right (by decide) (by omega)))]
theorem itB_len {n : Int} (h : okN n = true) : (itB n).length ≤ 14 := by
  have := okN_iff.1 h
  unfold itB
  split
  · rw [decF_more 12 20 n.natAbs (by omega) (by decide), List.length_cons]
    have := decF_len 12 n.natAbs (by omega)
    omega
  · rw [decF_more 12 20 n.toNat (by omega) (by decide)]
    have := decF_len 12 n.toNat (by omega)
    omega
theorem itB_pos (n : Int) : 1 ≤ (itB n).length := by
  unfold itB
  split
  · rw [List.length_cons]; omega
  · exact List.length_pos_iff.2 (decF_ne _ _)
theorem numT_len {n : Int} (h : okN n = true) : (numT n).length ≤ 15 := by
  have := itB_len h
  show (itB n).length + 1 ≤ 15
  omega
theorem numsT_fit : ∀ {l : List Int}, l.all okN = true → (numsT l).length ≤ 15 * l.length
  | [], _ => Nat.zero_le _
  | n :: l, h => by
    rw [List.all_cons, Bool.and_eq_true] at h
    have h1 := numT_len h.1
    have h2 := numsT_fit h.2
    unfold numsT at h2 ⊢
    rw [List.flatMap_cons, List.length_append, List.length_cons]
    omega
theorem numsT_more : ∀ {l : List Int}, 2 * l.length ≤ (numsT l).length
  | [] => Nat.zero_le _
  | n :: l => by
    have h1 := itB_pos n
    have h2 := @numsT_more l
    unfold numsT at h2 ⊢
    rw [List.flatMap_cons, List.length_append, List.length_cons]
    have : (numT n).length = (itB n).length + 1 := rfl
    omega
theorem wordN_len (k : Nat) : (wordN k).length ≤ 6 := by
  unfold wordN
  split <;> decide
/-- Room for a row's text. -/
def rmR (r : Rw) : Nat := 7 + 15 * r.2.length
theorem rowT_len {r : Rw} (h : okR r = true) : (rowT r).length ≤ rmR r := by
  have h1 := numsT_fit (l := r.2) h
  have h2 := wordN_len r.1
  unfold rowT rmR
  rw [List.length_append, List.length_append, List.length_cons, List.length_nil]
  omega
theorem rowT_more (r : Rw) : rmR r ≤ 8 * (rowT r).length := by
  have h1 := @numsT_more r.2
  unfold rowT rmR
  rw [List.length_append, List.length_append, List.length_cons, List.length_nil]
  omega
def rmS (l : List Rw) : Nat := (l.map rmR).sum
theorem rmS_app (a b : List Rw) : rmS (a ++ b) = rmS a + rmS b := by
  unfold rmS
  rw [List.map_append, List.sum_append]
theorem rows_len_le : ∀ {l : List Rw}, l.all okR = true → (l.flatMap rowT).length ≤ rmS l
  | [], _ => Nat.zero_le _
  | r :: l, h => by
    rw [List.all_cons, Bool.and_eq_true] at h
    have h1 := rowT_len h.1
    have h2 := rows_len_le h.2
    unfold rmS at h2 ⊢
    rw [List.flatMap_cons, List.length_append, List.map_cons, List.sum_cons]
    omega
theorem rmS_le : ∀ (l : List Rw), rmS l ≤ 8 * (l.flatMap rowT).length
  | [] => Nat.zero_le _
  | r :: l => by
    have h1 := rowT_more r
    have h2 := rmS_le l
    unfold rmS at h2 ⊢
    rw [List.flatMap_cons, List.length_append, List.map_cons, List.sum_cons]
    omega
theorem rmS_each {n : Nat} : ∀ {l : List Rw}, (∀ r ∈ l, r.2.length ≤ n) → rmS l ≤ (7 + 15 * n) * l.length
  | [], _ => Nat.zero_le _
  | r :: l, h => by
    have h1 := h r (List.mem_cons_self)
    have h2 := rmS_each (n := n) (fun x hx => h x (List.mem_cons_of_mem _ hx))
    have h3 : rmR r ≤ 7 + 15 * n := by unfold rmR; omega
    unfold rmS at h2 ⊢
    rw [List.map_cons, List.sum_cons, List.length_cons, Nat.mul_succ]
    omega
def okHead (x : Wld) : Bool := okN x.people && (okN x.covers && okN x.offs)
theorem headT_len {x : Wld} (h : okHead x = true) (hs : x.seed.length = 32) : (headT x).length ≤ 116 := by
  unfold okHead at h
  rw [Bool.and_eq_true, Bool.and_eq_true] at h
  have h1 := numsT_fit (l := [x.people, x.covers, x.offs]) (by simp [h.1, h.2.1, h.2.2])
  have h2 := hexT_len x.seed
  unfold headT
  simp only [List.length_append, List.length_cons, List.length_nil, h2, hs] at h1 ⊢
  have : wWorld.length = 5 := rfl
  omega
/-- Room for a world's text. -/
def Wld.room (x : Wld) : Nat := 116 + rmS x.rows
/-- A world with short lists. -/
def fewL (x : Lin) : Bool := decide (x.offs.length ≤ 12) && (decide (x.legs.length ≤ 12) && (decide (x.rules.length ≤ 20) && decide (x.off.length ≤ 70)))
def fewW (x : Wld) : Bool := decide (x.base.length ≤ 20) && (decide (x.leg.length ≤ 20) && (decide (x.tiers.length ≤ 40) && (decide (x.lines.length ≤ 8) && (decide (x.orders.length ≤ 8) && (decide (x.ents.length ≤ 40) && (decide (x.secs.length ≤ 30) && (decide (x.faults.length ≤ 20) && (x.lines.all fewL && x.orders.all (fun o => decide (o.ag.length ≤ 30))))))))))
theorem lins_len : ∀ {l : List Lin}, l.all fewL = true → (l.flatMap linR).length ≤ 91 * l.length
  | [], _ => Nat.zero_le _
  | x :: l, h => by
    rw [List.all_cons, Bool.and_eq_true] at h
    have h2 := lins_len h.2
    have h1 := h.1
    unfold fewL at h1
    simp only [Bool.and_eq_true, decide_eq_true_eq] at h1
    rw [List.flatMap_cons, List.length_append, List.length_cons]
    have h3 : (linR x).length = x.rules.length + x.off.length + 1 := by
      unfold linR
      rw [List.length_cons, List.length_append, List.length_map, List.length_map]
    omega
theorem few_room {x : Wld} (h : fewW x = true) : x.room ≤ 600000 := by
  unfold fewW at h
  simp only [Bool.and_eq_true, decide_eq_true_eq] at h
  obtain ⟨h1, h2, h3, h4, h5, h6, h7, h8, h9, h10⟩ := h
  have hl := lins_len h9
  have hn : ∀ r ∈ x.rows, r.2.length ≤ 40 := by
    intro r hr
    unfold Wld.rows at hr
    simp only [List.mem_append, List.mem_map, List.mem_flatMap] at hr
    rcases hr with ⟨p, _, rfl⟩ | ⟨p, _, rfl⟩ | ⟨p, hp, hr⟩ | ⟨p, hp, rfl⟩ | ⟨p, _, rfl⟩ | ⟨p, _, rfl⟩ | ⟨p, _, rfl⟩
    · exact Nat.le_of_ble_eq_true rfl
    · exact Nat.le_of_ble_eq_true rfl
    · have h9 := List.all_eq_true.1 h9 p hp
      unfold fewL at h9
      simp only [Bool.and_eq_true, decide_eq_true_eq] at h9
      unfold linR at hr
      simp only [List.mem_cons, List.mem_append, List.mem_map] at hr
      rcases hr with rfl | ⟨q, _, rfl⟩ | ⟨q, _, rfl⟩
      · unfold lineR
        simp only [List.length_append, List.length_cons, List.length_nil]
        omega
      · exact Nat.le_of_ble_eq_true rfl
      · exact Nat.le_of_ble_eq_true rfl
    · have h10 := List.all_eq_true.1 h10 p hp
      have h10 := of_decide_eq_true h10
      unfold odrR
      simp only [List.length_append, List.length_cons, List.length_nil]
      omega
    · exact Nat.le_of_ble_eq_true rfl
    · exact Nat.le_of_ble_eq_true rfl
    · exact Nat.le_of_ble_eq_true rfl
  have hr := rmS_each hn
  have hc : x.rows.length ≤ 886 := by
    unfold Wld.rows
    simp only [List.length_append, List.length_map, List.length_zip]
    omega
  have : rmS x.rows ≤ 607 * 886 := Nat.le_trans hr (Nat.mul_le_mul (by decide) hc)
  unfold Wld.room
  omega
theorem text_len {x : Wld} (h : x.okW = true) (hs : x.seed.length = 32) : x.text.length ≤ x.room := by
  unfold Wld.okW at h
  rw [Bool.and_eq_true] at h
  have h1 := headT_len h.1 hs
  have h2 := rows_len_le h.2
  unfold Wld.text Wld.room
  rw [List.length_append]
  omega
theorem text_room (x : Wld) : x.room ≤ 116 + 8 * x.text.length := by
  have := rmS_le x.rows
  unfold Wld.text Wld.room
  rw [List.length_append]
  omega
end Go.Proofs.YtmbopkcmbiommaaGreatDoor

/-
  reports.printer: put; walked.
-/
namespace Go.Proofs.YtmbopkcmbiommaaGreatDoor
open Go Go.RowKit Go.Maps

/-- What put writes. -/
inductive Itm where
  | num (n : Int)
  | flag (x : Bool)
  | nums (A : Option Addr) (c : Nat) (l : List Int)
  | seed (d : List Nat)
def Itm.val : Itm → Value
  | .num n => .iface 3 (.int .i64 n)
  | .flag x => .iface 4 (.bool x)
  | .nums A c l => .iface 25 (.slice A l.length c)
  | .seed d => .iface 32 (.agg (byts d).toArray)
def Itm.txt : Itm → By
  | .num n => numT n
  | .flag x => numT (flagI x)
  | .nums _ _ l => numsT l
  | .seed d => 32 :: hexT d
def Itm.good : Itm → Bool
  | .num n => okN n
  | .flag _ => true
  | .nums _ _ l => l.all okN
  | .seed _ => true
def Itm.wt : Itm → Nat
  | .num _ => 15
  | .flag _ => 15
  | .nums _ _ l => 15 * l.length
  | .seed _ => 65
def Itm.At (w : World) (b : Nat) : Itm → Prop
  | .num _ => True
  | .flag _ => True
  | .nums A _ l => Rd w b 1 A l.length (ints l) ∧ l.length ≤ 1000000
  | .seed d => d.length = 32 ∧ ∀ x ∈ d, x < 256
theorem flagI_ok (x : Bool) : okN (flagI x) = true := by cases x <;> decide
theorem Itm.len {x : Itm} {w : World} {b : Nat} (h : x.good = true) (hA : x.At w b) : x.txt.length ≤ x.wt := by
  cases x with
  | num n => exact numT_len h
  | flag x => exact numT_len (flagI_ok x)
  | nums A c l => exact numsT_fit h
  | seed d =>
    show (32 :: hexT d).length ≤ 65
    rw [List.length_cons, hexT_len, hA.1]
    omega
def itmsT (l : List Itm) : By := l.flatMap Itm.txt
def itmsW (l : List Itm) : Nat := (l.map Itm.wt).sum
theorem itmsT_len {w : World} {b : Nat} : ∀ {l : List Itm}, l.all Itm.good = true → (∀ x ∈ l, x.At w b) → (itmsT l).length ≤ itmsW l
  | [], _, _ => Nat.zero_le _
  | x :: l, h, hA => by
    rw [List.all_cons, Bool.and_eq_true] at h
    have h1 := Itm.len h.1 (hA x (List.mem_cons_self))
    have h2 := itmsT_len h.2 (fun y hy => hA y (List.mem_cons_of_mem _ hy))
    unfold itmsT itmsW at h2 ⊢
    rw [List.flatMap_cons, List.length_append, List.map_cons, List.sum_cons]
    omega
theorem itmsW_take : ∀ (l : List Itm) (k : Nat) (x : Itm), l[k]? = some x → itmsW (l.take k) + x.wt ≤ itmsW l
  | y :: l, 0, x, h => by
    simp only [List.getElem?_cons_zero, Option.some.injEq] at h
    subst h
    unfold itmsW
    rw [List.take_zero, List.map_cons, List.sum_cons]
    simp
  | y :: l, k + 1, x, h => by
    rw [List.getElem?_cons_succ] at h
    have := itmsW_take l k x h
    unfold itmsW at this ⊢
    rw [List.take_succ_cons, List.map_cons, List.sum_cons, List.map_cons, List.sum_cons]
    omega
  | [], k, x, h => by simp at h
theorem take_more {α : Type} {l : List α} {k : Nat} {x : α} (h : l[k]? = some x) : l.take (k + 1) = l.take k ++ [x] := by
  obtain ⟨hk, rfl⟩ := List.getElem?_eq_some_iff.1 h
  exact List.take_succ_eq_append_getElem hk
theorem itmsT_more {l : List Itm} {k : Nat} {x : Itm} (h : l[k]? = some x) : itmsT (l.take (k + 1)) = itmsT (l.take k) ++ x.txt := by
  rw [take_more h]
  unfold itmsT
  rw [List.flatMap_append]
  simp
theorem numsT_take {l : List Int} {k : Nat} {x : Int} (h : l[k]? = some x) : numsT (l.take (k + 1)) = numsT (l.take k) ++ numT x := by
  rw [take_more h]
  unfold numsT
  rw [List.flatMap_append]
  simp
theorem all_more {α : Type} {p : α → Bool} {l : List α} {k : Nat} {x : α} (h : l[k]? = some x) (h1 : (l.take k).all p = true) (h2 : p x = true) : (l.take (k + 1)).all p = true := by
  rw [take_more h, List.all_append, h1]
  simp [h2]
theorem all_less {α : Type} {p : α → Bool} {l : List α} {k : Nat} {x : α} (h : l[k]? = some x) (h2 : ¬ p x = true) : l.all p = false := by
  rw [List.all_eq_false]
  exact ⟨x, List.mem_of_getElem? h, h2⟩
theorem number_yes (b : Nat) (l : By) (n : Int) (w : World) (h : PAt w b l) (hl : l.length + (numT n).length ≤ 1000000000) (hG : LibG b w) (hok : okN n = true) :
    Calls Tryz.prog 79 #[.pointer (some ⟨b, 0, none⟩), .int .i64 n] w (fun e w' => e = .returned (.tuple #[]) ∧ PAt w' b (l ++ numT n) ∧ PKeep b w w') := by
  refine (pr_number b l n w h hl hG).mono ?_
  rintro e w' ⟨h1, h2⟩
  rw [if_pos hok] at h1
  exact ⟨h1.1, h1.2, h2⟩
theorem number_no (b : Nat) (n : Int) (w : World) (hok : ¬ okN n = true) :
    Calls Tryz.prog 79 #[.pointer (some ⟨b, 0, none⟩), .int .i64 n] w (fun e w' => e = PanW ∧ PKeep b w w') := by
  have hok : Hid (okN n = false) := Lib.hid (by simpa using hok)
  by_cases h1 : -1099511627776 ≤ n
  · have h2 : ¬ n ≤ 1099511627776 := fun h2 => by rw [okN_iff.2 ⟨h1, h2⟩] at hok; cases hok.out
    go_enter Tryz.func79, Tryz.ntmps79
    go_wp2_with (go_at_call 55; (with_reducible refine (want_no _).mono ?_); rintro e w3 ⟨h9, rfl⟩; unfold PanW at h9; subst h9)
    exact ⟨rfl, rfl, PKeep.refl _ _⟩
  · go_enter Tryz.func79, Tryz.ntmps79
    go_wp2_with (go_at_call 55; (with_reducible refine (want_no _).mono ?_); rintro e w3 ⟨h9, rfl⟩; unfold PanW at h9; subst h9)
    exact ⟨rfl, rfl, PKeep.refl _ _⟩
theorem as_int (m : Int) (w : World) : (Instr.typeAssert (.iface 3 (.int .i64 m)) 20 3 true).run Tryz.prog w = .ok (.tuple #[.int .i64 m, .bool true]) w := by kernel_rfl
theorem as_b0 (x : Bool) (w : World) : (Instr.typeAssert (.iface 4 (.bool x)) 20 3 true).run Tryz.prog w = .ok (.tuple #[.int .i64 0, .bool false]) w := by kernel_rfl
theorem as_b1 (x : Bool) (w : World) : (Instr.typeAssert (.iface 4 (.bool x)) 20 4 true).run Tryz.prog w = .ok (.tuple #[.bool x, .bool true]) w := by kernel_rfl
theorem as_l0 (v : Value) (w : World) : (Instr.typeAssert (.iface 25 v) 20 3 true).run Tryz.prog w = .ok (.tuple #[.int .i64 0, .bool false]) w := by kernel_rfl
theorem as_l1 (v : Value) (w : World) : (Instr.typeAssert (.iface 25 v) 20 4 true).run Tryz.prog w = .ok (.tuple #[.bool false, .bool false]) w := by kernel_rfl
theorem as_l2 (v : Value) (w : World) : (Instr.typeAssert (.iface 25 v) 20 25 true).run Tryz.prog w = .ok (.tuple #[v, .bool true]) w := by kernel_rfl
theorem as_d0 (v : Value) (w : World) : (Instr.typeAssert (.iface 32 v) 20 3 true).run Tryz.prog w = .ok (.tuple #[.int .i64 0, .bool false]) w := by kernel_rfl
theorem as_d1 (v : Value) (w : World) : (Instr.typeAssert (.iface 32 v) 20 4 true).run Tryz.prog w = .ok (.tuple #[.bool false, .bool false]) w := by kernel_rfl
theorem as_d2 (v : Value) (w : World) : (Instr.typeAssert (.iface 32 v) 20 25 true).run Tryz.prog w = .ok (.tuple #[.slice none 0 0, .bool false]) w := by kernel_rfl
theorem as_d3 (v : Value) (w : World) : (Instr.typeAssert (.iface 32 v) 20 32 true).run Tryz.prog w = .ok (.tuple #[v, .bool true]) w := by kernel_rfl
theorem wpList_insertG {P : Program} {w w' : World} {ops : Array Oper} {rest : List Oper} {o : Oper} {a : Act} {Q : Exit → Act → World → Prop}
    (hg : o.guard = none) (mo x v : Operand) (t : TypeId) (hop : o.op = Op.insert t mo x v) {m i y : Value} (hm : a.eval mo = m) (hx : a.eval x = i) (hv : a.eval v = y) (hrun : (Instr.mapUpdate t m i y).run P w = .ok () w')
    (hK : wpList P ops Q rest (a.put o.dst undef) w') : wpList P ops Q (o :: rest) a w := by
  refine wpList_plain hg fun K' hK' => ?_
  unfold Oper.wp
  simp [execOp, hop, hm, hx, hv, hrun, Result.andThen]
  exact hK' _ _ hK
set_option maxRecDepth 100000 in
theorem flag_map (w : World) : ∃ w', (Instr.mapUpdate 154 (.map (some w.heap.size)) (.bool true) (.int .i64 1)).run Tryz.prog (w.alloc (.map #[] 0)) = .ok () w' ∧ Below w.heap.size w w' ∧
    ∀ x : Bool, (Instr.lookup 154 (.map (some w.heap.size)) (.bool x) false).run Tryz.prog w' = .ok (.int .i64 (flagI x)) w' := by
  have h1 := World.ownsMap_made w Tryz.prog 4 (R := heldR)
  have hm : IsMap (DataW.map [] : DataW Value) := isMap_empty
  obtain ⟨w', r1, r2, r3⟩ := h1.update (bool_keyed Tryz.underlying4) Tryz.underlying154 (by unfold maxLen; omega) (keyOf_bool_mk Tryz.underlying4 true) (val := .int .i64 1) (d := .held (.int .i64 1)) (ps := []) rfl
  have hlt := h1.lt
  refine ⟨w', r1, (bAl (bRefl w) _).grown r3 (Nat.le_of_lt hlt) (fun q e => by cases e; exact Nat.le_refl _), fun x => ?_⟩
  have hz : (zeroValue 3).run Tryz.prog w' = .ok (.int .i64 0) w' := by kernel_rfl
  obtain ⟨v, ps, hrun, hv⟩ := r2.lookup (bool_keyed Tryz.underlying4) Tryz.underlying154 hz (zd := .held (.int .i64 0)) rfl (keyOf_bool_mk Tryz.underlying4 x)
  rw [hrun]
  cases x
  · rw [atKey_put_other (by intro h; injection h with h; cases h)] at hv
    have h4 : (some (DataW.held v, ([] : List MemPlace))) = some (DataW.held (.int .i64 0), ps) := hv
    injection h4 with h4
    injection h4 with h4
    injection h4 with h4
    rw [h4]; rfl
  · rw [atKey_put_same hm (k := .bool true) (by exact trivial)] at hv
    have h4 : (some (DataW.held v, ([] : List MemPlace))) = some (DataW.held (.int .i64 1), ps) := hv
    injection h4 with h4
    injection h4 with h4
    injection h4 with h4
    rw [h4]; rfl
end Go.Proofs.YtmbopkcmbiommaaGreatDoor
