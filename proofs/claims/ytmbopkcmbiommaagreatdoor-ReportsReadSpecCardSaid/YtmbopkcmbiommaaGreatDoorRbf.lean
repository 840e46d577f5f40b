/- Plain: lines that are wrong wherever they stand; the examples. -/
import Derived.Test.YtmbopkcmbiommaaGreatDoorRac
set_option maxRecDepth 1000000
set_option maxHeartbeats 16000000
namespace Go.Proofs.YtmbopkcmbiommaaGreatDoor
open Go
theorem bad_of {a f : By} {rest : List By} (hs : splitC 32 a = f :: rest) (hno : ∀ x ∈ a, x ≠ 10) (hr : rowN f = 0 ∨ ∀ w, readR w (rowN f) rest = none) : badL (a ++ [10]) := by
  refine ⟨fun st => ?_, a, rfl, hno⟩
  unfold stepW
  rw [cutNl_row]
  simp only
  rw [hs]
  simp only
  split
  · rename_i hf
    rcases hr with hr | hr
    · rw [hr] at hf
      have := (follows_row hf).1
      omega
    · rw [hr]; rfl
  · rfl
def odd0 : By := []
def odd1 : By := [32]
def odd2 : By := [120]
def odd3 : By := [119, 111, 114, 108, 100, 32, 48, 32, 48, 32, 48]
def odd4 : By := [119, 111, 114, 108, 100, 32, 48, 32, 48, 32, 48, 32, 48, 48, 48, 48, 48, 48, 48, 48, 48, 48, 48, 48, 48, 48, 48, 48, 48, 48, 48, 48, 48, 48, 48, 48, 48, 48, 48, 48, 48, 48, 48, 48, 48, 48, 48, 48, 48, 48, 48, 48, 48, 48, 48, 48, 48, 48, 48, 48, 48, 48, 48, 48, 48, 48, 48, 48, 48, 48, 48, 48, 48, 48, 48]
def odd5 : By := [119, 111, 114, 108, 100, 32, 48, 32, 48, 32, 48, 32, 65, 48, 48, 48, 48, 48, 48, 48, 48, 48, 48, 48, 48, 48, 48, 48, 48, 48, 48, 48, 48, 48, 48, 48, 48, 48, 48, 48, 48, 48, 48, 48, 48, 48, 48, 48, 48, 48, 48, 48, 48, 48, 48, 48, 48, 48, 48, 48, 48, 48, 48, 48, 48, 48, 48, 48, 48, 48, 48, 48, 48, 48, 48, 48]
def odd7 : By := [99, 108, 97, 115, 115, 32, 49]
def odd8 : By := [116, 105, 101, 114, 32, 49, 32, 50, 32, 51]
def odd9 : By := [108, 105, 110, 101, 32, 49, 32, 50, 32, 48]
def odd10 : By := [108, 105, 110, 101, 32, 49, 32, 50, 32, 50, 32, 48, 32, 49]
def odd11 : By := [114, 117, 108, 101, 32, 49, 32, 50]
def odd12 : By := [103, 97, 112, 32, 49, 32, 50, 32, 51]
def odd13 : By := [111, 114, 100, 101, 114, 32, 49, 32, 50, 32, 51, 32, 52, 32, 53, 32, 54, 32, 55, 32, 56, 32, 50, 32, 48]
def odd14 : By := [111, 114, 100, 101, 114, 32, 49, 32, 50, 32, 51, 32, 52, 32, 53, 32, 54, 32, 55, 32, 56, 32, 49]
def odd15 : By := [101, 110, 116, 114, 121, 32, 49, 32, 50, 32, 51, 32, 52, 32, 53, 32, 54, 32, 55]
def odd16 : By := [115, 101, 99, 114, 101, 116, 32, 48, 52]
def odd17 : By := [115, 101, 99, 114, 101, 116, 32, 49, 48, 57, 57, 53, 49, 49, 54, 50, 55, 55, 55, 55]
def odd18 : By := [115, 101, 99, 114, 101, 116]
def odd19 : By := [102, 97, 117, 108, 116, 32, 49, 32, 50, 32, 51]
def odd20 : By := [102, 97, 117, 108, 116, 32, 49, 32, 50, 32, 51, 32, 52, 32]
def zer64 : By := List.replicate 64 48
def beginT : By := [119, 111, 114, 108, 100, 32, 48, 32, 48, 32, 48, 32] ++ (zer64 ++ [10])
def oneW : Wld := { zeroW with base := [10], leg := [3] }
def allW : Wld := ⟨2, [⟨[1, 0], [7], 1, 4, [⟨5, 9, 2⟩], [⟨6, 7⟩]⟩], [10], [3], [⟨2, 8⟩], [⟨1, 2, 0, 0, 3, 40, 2, 50, [0], true, 1⟩], 3, [⟨6, 1, 2, 1, 0, 8, 1, 9⟩], -4, [70, 80], 171 :: List.replicate 31 0, [⟨1, 0, 1, 2⟩]⟩
def allT : By := [119, 111, 114, 108, 100, 32, 51, 32, 45, 52, 32, 50, 32, 97, 98] ++ (List.replicate 62 48 ++ [10, 99, 108, 97, 115, 115, 32, 49, 48, 32, 51, 10, 116, 105, 101, 114, 32, 50, 32, 56, 10, 108, 105, 110, 101, 32, 49, 32, 52, 32, 50, 32, 49, 32, 48, 32, 55, 10, 114, 117, 108, 101, 32, 53, 32, 57, 32, 50, 10, 103, 97, 112, 32, 54, 32, 55, 10, 111, 114, 100, 101, 114, 32, 49, 32, 50, 32, 48, 32, 48, 32, 51, 32, 52, 48, 32, 50, 32, 53, 48, 32, 49, 32, 49, 32, 48, 10, 101, 110, 116, 114, 121, 32, 54, 32, 49, 32, 50, 32, 49, 32, 48, 32, 56, 32, 49, 32, 57, 10, 115, 101, 99, 114, 101, 116, 32, 55, 48, 10, 115, 101, 99, 114, 101, 116, 32, 56, 48, 10, 102, 97, 117, 108, 116, 32, 49, 32, 48, 32, 49, 32, 50, 10])
def clsT : By := [99, 108, 97, 115, 115, 32, 49, 48, 32, 51, 10]
theorem ex_none : readV [] = (zeroW, 1, 590) := rfl
theorem ex_begin : readV beginT = (zeroW, 0, 210) := by
  have e : beginT = zeroW.text := by decide +kernel
  have hp : postE zeroW = 210 := by decide +kernel
  obtain ⟨k, hk, e2⟩ := fold_text (w := zeroW) ⟨rfl, fun x hx => (by cases hx), by decide, rfl⟩ (by decide +kernel)
  unfold readV
  rw [e, e2]
  simp only
  rw [if_neg (by omega), hp, if_neg (by decide)]
theorem fold_none {a b : List By} {t : By} {n : Nat} {st s : Wld × Nat} (h : foldW n st a = .inl s) (hb : stepW s t = none) : foldW n st (a ++ t :: b) = .inr (n + a.length + 1) := by
  rw [foldW_app, h]
  show (match stepW s t with | some st' => foldW (n + a.length + 1) st' b | none => .inr (n + a.length + 1)) = _
  rw [hb]
theorem begin_head : beginT = headT zeroW := by decide +kernel
theorem begin_end : ∃ a, beginT = a ++ [10] ∧ ∀ x ∈ a, x ≠ 10 := by rw [begin_head]; exact headT_ends (by decide)
theorem fold_begin : foldW 0 (zeroW, 0) [beginT] = .inl (zeroW.head zeroW, 1) := by
  rw [begin_head]
  unfold foldW
  rw [step_head (w := zeroW) (x := zeroW) (by decide) (by decide) (by decide) (by decide) rfl]
  rfl
theorem read_second {t : By} (ht : ∃ a, t = a ++ [10] ∧ ∀ x ∈ a, x ≠ 10) (hn : stepW (zeroW.head zeroW, 1) t = none) : readV (beginT ++ t) = (zeroW, 2, 590) := by
  have e : beginT ++ t = [beginT, t].flatten := by simp
  unfold readV
  rw [e, linesC_flatten (l := [beginT, t]) (fun x hx => by
    simp only [List.mem_cons, List.not_mem_nil, or_false] at hx
    rcases hx with rfl | rfl
    · exact begin_end
    · exact ht), show [beginT, t] = [beginT] ++ t :: [] from rfl, fold_none fold_begin hn]
  rfl
def zeroT : By := [119, 111, 114, 108, 100, 32, 48, 32, 48, 32, 48, 48, 32] ++ zer64
theorem zeroT_bad : badL (zeroT ++ [10]) := bad_of (f := [119, 111, 114, 108, 100]) (rest := [[48], [48], [48, 48], zer64]) (by decide +kernel) (by decide +kernel) (.inr (fun _ => rfl))
theorem ex_zero : readV (zeroT ++ [10]) = (zeroW, 1, 590) := by
  unfold readV
  rw [show linesC (zeroT ++ [10]) = [zeroT ++ [10]] by decide +kernel, show [zeroT ++ [10]] = [] ++ (zeroT ++ [10]) :: [] from rfl, fold_none (s := (zeroW, 0)) rfl (zeroT_bad.1 _)]
  rfl
def cls1 : By := [99, 108, 97, 115, 115, 32, 49, 48]
theorem cls1_bad : badL (cls1 ++ [10]) := bad_of (f := [99, 108, 97, 115, 115]) (rest := [[49, 48]]) (by decide +kernel) (by decide +kernel) (.inr (fun _ => rfl))
theorem ex_cls : readV (beginT ++ (cls1 ++ [10])) = (zeroW, 2, 590) := read_second cls1_bad.2 (cls1_bad.1 _)
def rul1 : By := [114, 117, 108, 101, 32, 49, 32, 50, 32, 51]
theorem ex_rule : readV (beginT ++ (rul1 ++ [10])) = (zeroW, 2, 590) := by
  refine read_second ⟨_, rfl, by decide +kernel⟩ ?_
  unfold stepW
  rw [cutNl_row]
  simp only
  rw [show splitC 32 rul1 = [[114, 117, 108, 101], [49], [50], [51]] by decide +kernel]
  rfl
theorem ex_cut : readV (beginT.take (beginT.length - 1)) = (zeroW, 1, 590) := by
  unfold readV
  rw [show linesC (beginT.take (beginT.length - 1)) = [beginT.take (beginT.length - 1)] by decide +kernel, show [beginT.take (beginT.length - 1)] = [] ++ (beginT.take (beginT.length - 1)) :: [] from rfl, fold_none (s := (zeroW, 0)) rfl (by
    unfold stepW
    rw [show cutNl (beginT.take (beginT.length - 1)) = none by decide +kernel])]
  rfl
theorem ex_one : printV oneW = (beginT ++ clsT, 0) := by
  unfold printV
  rw [if_pos (by decide +kernel), if_pos (by decide +kernel), show oneW.text = beginT ++ clsT by decide +kernel]
theorem ex_oneR : readV (beginT ++ clsT) = (oneW, 0, 0) := read_print (by decide) rfl ex_one
theorem ex_all : printV allW = (allT, 0) := by
  unfold printV
  rw [if_pos (by decide +kernel), if_pos (by decide +kernel), show allW.text = allT by decide +kernel]
theorem ex_allR : readV allT = (allW, 0, 0) := read_print (by decide) rfl ex_all
theorem decF_len : ∀ (f u : Nat), u < 10 ^ (f + 1) → (decF f u).length ≤ f + 1
  | 0, u, h => by
    unfold decF
    simp
  | f + 1, u, h => by
    unfold decF
    split
    · simp
    · have := decF_len f (u / 10) (by rw [Nat.div_lt_iff_lt_mul (by decide)]; rw [Nat.pow_succ] at h; exact h)
      simp only [List.length_append, List.length_cons, List.length_nil]
      omega
theorem decF_more : ∀ (f g u : Nat), u < 10 ^ (f + 1) → f ≤ g → decF g u = decF f u := fun f g u h hg => by
  rw [decF_eq f u h, decF_eq g u (Nat.lt_of_lt_of_le h (Nat.pow_le_pow_right (by decide) (by omega)))]
theorem itB_len {n : Int} (h : okN n = true) : (itB n).length ≤ 14 := by
  have := okN_iff.1 h
  unfold itB
  split
  · rw [decF_more 12 20 n.natAbs (by omega) (by decide), List.length_cons]
    have := decF_len 12 n.natAbs (by omega)
    omega
  · rw [decF_more 12 20 n.toNat (by omega) (by decide)]
    have := decF_len 12 n.toNat (by omega)
    omega
theorem numT_len {n : Int} (h : okN n = true) : (numT n).length ≤ 15 := by
  have := itB_len h
  show (itB n).length + 1 ≤ 15
  omega
theorem numsT_fit : ∀ {l : List Int}, l.all okN = true → (numsT l).length ≤ 15 * l.length
  | [], _ => Nat.zero_le _
  | n :: l, h => by
    rw [List.all_cons, Bool.and_eq_true] at h
    have h1 := numT_len h.1
    have h2 := numsT_fit h.2
    unfold numsT at h2 ⊢
    rw [List.flatMap_cons, List.length_append, List.length_cons]
    omega
theorem wordN_len (k : Nat) : (wordN k).length ≤ 6 := by
  unfold wordN
  split <;> decide
def rmR (r : Rw) : Nat := 7 + 15 * r.2.length
theorem rowT_len {r : Rw} (h : okR r = true) : (rowT r).length ≤ rmR r := by
  have h1 := numsT_fit (l := r.2) h
  have h2 := wordN_len r.1
  unfold rowT rmR
  rw [List.length_append, List.length_append, List.length_cons, List.length_nil]
  omega
def rmS (l : List Rw) : Nat := (l.map rmR).sum
theorem rmS_app (a b : List Rw) : rmS (a ++ b) = rmS a + rmS b := by
  unfold rmS
  rw [List.map_append, List.sum_append]
theorem rows_len_le : ∀ {l : List Rw}, l.all okR = true → (l.flatMap rowT).length ≤ rmS l
  | [], _ => Nat.zero_le _
  | r :: l, h => by
    rw [List.all_cons, Bool.and_eq_true] at h
    have h1 := rowT_len h.1
    have h2 := rows_len_le h.2
    unfold rmS at h2 ⊢
    rw [List.flatMap_cons, List.length_append, List.map_cons, List.sum_cons]
    omega
def okHead (x : Wld) : Bool := okN x.people && (okN x.covers && okN x.offs)
theorem headT_len {x : Wld} (h : okHead x = true) (hs : x.seed.length = 32) : (headT x).length ≤ 116 := by
  unfold okHead at h
  rw [Bool.and_eq_true, Bool.and_eq_true] at h
  have h1 := numsT_fit (l := [x.people, x.covers, x.offs]) (by simp [h.1, h.2.1, h.2.2])
  have h2 := hexT_len x.seed
  unfold headT
  simp only [List.length_append, List.length_cons, List.length_nil, h2, hs] at h1 ⊢
  have : wWorld.length = 5 := rfl
  omega
def Wld.room (x : Wld) : Nat := 116 + rmS x.rows
def fewL (x : Lin) : Bool := decide (x.offs.length ≤ 12) && (decide (x.legs.length ≤ 12) && (decide (x.rules.length ≤ 20) && decide (x.off.length ≤ 70)))
def fewW (x : Wld) : Bool := decide (x.base.length ≤ 20) && (decide (x.leg.length ≤ 20) && (decide (x.tiers.length ≤ 40) && (decide (x.lines.length ≤ 8) && (decide (x.orders.length ≤ 8) && (decide (x.ents.length ≤ 40) && (decide (x.secs.length ≤ 30) && (decide (x.faults.length ≤ 20) && (x.lines.all fewL && x.orders.all (fun o => decide (o.ag.length ≤ 30))))))))))
end Go.Proofs.YtmbopkcmbiommaaGreatDoor
