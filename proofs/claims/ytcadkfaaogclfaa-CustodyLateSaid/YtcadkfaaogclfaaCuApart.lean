/-
  CustodyApart: letters do not matter for each other. The plain law, the walk and the claim.
-/
import Derived.Test.YtcadkfaaogclfaaCuOnce
import Derived.Test.YtcadkfaaogclfaaCut
import Derived.Deep.CutBlock
namespace Go.Proofs.Ytcadkfaaogclfaa
open Go.ChangeShapes Go.WideShapes Go.ChangeAt Go.RowKit

/-- Letters in order. -/
def SortedTo (l : List Ev) (k : Nat) : Prop := ∀ (i : Nat) (x y : Ev), i + 1 < k → l[i]? = some x → l[i + 1]? = some y → x.letter ≤ y.letter

theorem sorted_le {l : List Ev} (h : SortedTo l l.length) : ∀ (d i : Nat) (x y : Ev), l[i]? = some x → l[i + d]? = some y → x.letter ≤ y.letter
  | 0, i, x, y, h1, h2 => by
    rw [Nat.add_zero, h1] at h2; injection h2 with h2; subst h2; exact Int.le_refl _
  | d + 1, i, x, y, h1, h2 => by
    have hlt : i + (d + 1) < l.length := (List.getElem?_eq_some_iff.1 h2).1
    have hz : l[i + d]? = some l[i + d] := List.getElem?_eq_getElem (by omega)
    have h3 := sorted_le h d i x _ h1 hz
    have h4 := h (i + d) _ y (by omega) hz (by rw [← h2]; congr 1)
    omega

theorem chk_app : ∀ (a b : List Ev) (p : Option Ev), chk p (a ++ b) = (chk p a && chk (if a = [] then p else a.getLast?) b)
  | [], b, p => by simp [chk]
  | [y], b, p => by
    show (nextB p y && chk (some y) b) = ((nextB p y && true) && _)
    simp
  | y :: z :: a, b, p => by
    have := chk_app (z :: a) b (some y)
    show (nextB p y && chk (some y) (z :: a ++ b)) = ((nextB p y && chk (some y) (z :: a)) && _)
    rw [this, Bool.and_assoc]
    simp
theorem chk_fresh {y x : Ev} {r : List Ev} (h : y.letter < x.letter) : chk (some y) (x :: r) = chk none (x :: r) := by
  show (nextB (some y) x && _) = (nextB none x && _)
  have : nextB (some y) x = nextB none x := by
    unfold nextB
    rw [timeB_ne (by omega), bfOf_ne (by omega)]
    have : orderB (some y) x = true := by simp [orderB]; omega
    rw [this]
    simp [timeB, orderB, bfOf]
  rw [this]

/-- The letters from i to k, alone. -/
def segOf (l : List Ev) (i k : Nat) : List Ev := (l.take k).drop i
theorem segOf_length {l : List Ev} {i k : Nat} (hk : k ≤ l.length) : (segOf l i k).length = k - i := by unfold segOf; simp; omega
theorem take_seg {l : List Ev} {i k : Nat} (hik : i ≤ k) : l.take k = l.take i ++ segOf l i k := by
  unfold segOf
  conv => lhs; rw [← List.take_append_drop i (l.take k)]
  rw [List.take_take, Nat.min_eq_left hik]

/-- One letter's events behind those of the letters before. -/
theorem chk_seg {l : List Ev} {i k : Nat} (hik : i < k) (hk : k ≤ l.length) (hfresh : ∀ x y, 0 < i → l[i - 1]? = some y → l[i]? = some x → y.letter < x.letter) :
    chk none (l.take k) = (chk none (l.take i) && chk none (segOf l i k)) := by
  rw [take_seg (Nat.le_of_lt hik), chk_app]
  rcases Nat.eq_zero_or_pos i with h0 | hpos
  · subst h0; simp
  · have hne : l.take i ≠ [] := by
      intro e
      have := congrArg List.length e
      simp at this
      rcases this with h | h
      · omega
      · subst h; simp at hk; omega
    rw [if_neg hne]
    have hlast : (l.take i).getLast? = l[i - 1]? := by
      rw [List.getLast?_eq_getElem?, List.length_take, List.getElem?_take, Nat.min_eq_left (by omega), if_pos (by omega)]
    have hx : l[i]? = some l[i] := List.getElem?_eq_getElem (by omega)
    have hy : l[i - 1]? = some l[i - 1] := List.getElem?_eq_getElem (by omega)
    have hseg : ∃ r, segOf l i k = l[i] :: r := by
      unfold segOf
      have hlt : i < (l.take k).length := by simp; omega
      rw [List.drop_eq_getElem_cons hlt]
      exact ⟨_, by rw [List.getElem_take]⟩
    obtain ⟨r, hr⟩ := hseg
    rw [hlast, hy, hr, chk_fresh (hfresh _ _ hpos hy hx)]

theorem kindAt_app_ne {a b : List Ev} {t : Int} (h : ∀ x ∈ b, x.letter ≠ t) : kindAt (a ++ b) t = kindAt a t := by
  unfold kindAt
  rw [List.foldl_append]
  generalize List.foldl (fun s (x : Ev) => if x.letter = t then x.kind else s) 0 a = s
  induction b generalizing s with
  | nil => rfl
  | cons x b ih =>
    rw [List.foldl_cons, if_neg (h x (by simp)), ih (fun y hy => h y (by simp [hy]))]
theorem kindAt_last {l : List Ev} {k : Nat} {x : Ev} {t : Int} (hk : 0 < k) (hx : l[k - 1]? = some x) (ht : x.letter = t) : kindAt (l.take k) t = x.kind := by
  obtain ⟨hlt, rfl⟩ := List.getElem?_eq_some_iff.1 hx
  obtain ⟨m, rfl⟩ : ∃ m, k = m + 1 := ⟨k - 1, by omega⟩
  have e : l.take (m + 1) = l.take m ++ [l[m + 1 - 1]] := by
    rw [List.take_succ_eq_append_getElem (by omega)]; rfl
  rw [e, kindAt_snoc, if_pos ht]
theorem kindAt_whole {l : List Ev} {k : Nat} {x : Ev} {t : Int} (hk : 0 < k) (hx : l[k - 1]? = some x) (ht : x.letter = t) (hn : ∀ y ∈ l.drop k, y.letter ≠ t) : kindAt l t = x.kind := by
  have : kindAt l t = kindAt (l.take k ++ l.drop k) t := by rw [List.take_append_drop]
  rw [this, kindAt_app_ne hn, kindAt_last hk hx ht]
theorem kindAt_seg {l : List Ev} {i k : Nat} {x : Ev} {t : Int} (hik : i < k) (hk : k ≤ l.length) (hx : l[k - 1]? = some x) (ht : x.letter = t) : kindAt (segOf l i k) t = x.kind := by
  have e : (segOf l i k)[(segOf l i k).length - 1]? = some x := by
    rw [segOf_length hk]
    unfold segOf
    rw [List.getElem?_drop, List.getElem?_take, if_pos (by omega), ← hx]
    congr 1
    omega
  have h := kindAt_last (l := segOf l i k) (k := (segOf l i k).length) (by rw [segOf_length hk]; omega) e ht
  rwa [List.take_length] at h

theorem rd_seg {w : World} {B n b off i k : Nat} {l : List Ev} (h : Rd w B 4 (some ⟨b, off, none⟩) n (l.flatMap Ev.cells)) (hik : i ≤ k) (hk : k ≤ n) :
    Rd w B 4 (some ⟨b, off + i * 4, none⟩) (k - i) ((segOf l i k).flatMap Ev.cells) := by
  unfold segOf
  rw [flat_drop Ev.cells_length, flat_take Ev.cells_length]
  exact (h.pre k hk).cut i hik
theorem later_ret_ie {P : Program} {f : FuncId} {args : Array Value} {k e : Int} {w : World} {x : Later} (h : Calls P f args (later w x) (RetIE k e (later w x))) :
    Calls P f args (later w x) fun r w'' => r = .returned (.tuple #[.int .i64 k, .int .i64 e]) ∧ ∃ y : Later, w'' = later w y :=
  later_ret h

theorem check_eq {l : List Ev} (hn : l.length ≤ 4096) : (check l == 0) = chk none l := by
  cases h : chk none l
  · rw [check_bad hn h]; rfl
  · rw [check_good hn h]; rfl
theorem chk_part {l : List Ev} {k m : Nat} (h : chk none l = true) (hm : chk none (l.take m) = (chk none (l.take k) && chk none (segOf l k m))) : chk none (segOf l k m) = true := by
  have h1 : chk none (l.take m ++ l.drop m) = true := by rw [List.take_append_drop]; exact h
  rw [chk_app, hm] at h1
  simp at h1
  exact h1.1.2

theorem status_good {l : List Ev} {t k : Int} (hn : l.length ≤ 4096) (hc : chk none l = true) (ht : 0 ≤ t ∧ t ≤ 1048576) (hk : kindAt l t = k) : statusK l t = k ∧ statusE l t = 0 := by
  have h0 := check_good hn hc
  have hs := (spanB_iff 0 1048576 t).2 ht
  unfold statusK statusE
  rw [if_pos h0, if_pos h0, if_pos hs, if_pos hs]
  exact ⟨hk, rfl⟩

set_option maxRecDepth 100000 in
set_option maxHeartbeats 4000000 in
theorem apart_walk (A : Option Addr) (c : Nat) (l : List Ev) (W : World) (hA : Rd W W.heap.size 4 A l.length (l.flatMap Ev.cells)) (hn : l.length ≤ c) (hc63 : c ≤ 9223372036854775807) :
    Calls Try.prog 6 #[.slice A l.length c] W (Ret (.bool true) W) := by
  go_enter Try.func6, Try.ntmps6
  go_wp2_with fail
  refine (sane_any W).mono ?_
  rintro e w ⟨rfl, hb⟩
  go_wp2_with fail
  go_loopw [17] (fun i wr => ∃ k : Nat, k ≤ l.length ∧ i = .int .i64 k ∧ Below W.heap.size W wr ∧ Hid (SortedTo l k)) (fun i _ => l.length - (intOf i).toNat)
  case atStart => exact ⟨0, Nat.zero_le _, rfl, hb, Lib.hid (fun i x y h => by omega)⟩
  case round =>
    clear hb
    obtain ⟨k, hkn, rfl, hb, hs⟩ := hrel
    by_cases hj : k < l.length
    · obtain ⟨x, hx⟩ : ∃ x, Hid (l[k]? = some x) := ⟨_, Lib.hid (List.getElem?_eq_getElem hj)⟩
      obtain ⟨b, off, rfl, hbb, e0, _, _, _⟩ := Ev_at (hA.below hb) hj hx.out
      have hbw : b < wr.heap.size := Nat.lt_of_lt_of_le hbb hb.size
      go_upto_region 6 with fail
      have hgo : Hid (∀ z : Later, Below W.heap.size W (later wr z)) := fun z => bCall hb (later_below _ z)
      rcases Nat.eq_zero_or_pos k with rfl | hk0
      · refine wp_region_later_lit wr (bRefl _) (by kernel_rfl) (by kernel_rfl) ?_
        repeat (go_big_quiet_step (fail))
        refine wpQuiet_nil ?_
        rintro _ ⟨z, rfl⟩
        go_wp2_with fail
        go_roundw
        case rel => exact ⟨1, by omega, by go_num, hgo.out z, Lib.hid (fun i x y h => by omega)⟩
        case measure => simp [intOf]; omega
      · obtain ⟨y, hy⟩ : ∃ y, Hid (l[k - 1]? = some y) := ⟨_, Lib.hid (List.getElem?_eq_getElem (by omega))⟩
        obtain ⟨y0, _, _, _⟩ := Ev_cells (hA.below hb) (k := k - 1) (by omega) hy.out
        by_cases hle : y.letter ≤ x.letter
        · have hle' : decide (x.letter < y.letter) = false := by simp; omega
          have hsn : Hid (SortedTo l (k + 1)) := by
            intro i x' y' hi h1 h2
            by_cases e : i + 1 = k
            · have ei : i = k - 1 := by omega
              subst ei
              rw [hy.out] at h1
              rw [e, hx.out] at h2
              injection h1 with h1
              injection h2 with h2
              subst h1; subst h2
              exact hle
            · exact hs.out i x' y' (by omega) h1 h2
          clear hle
          refine wp_region_later_lit wr (bRefl _) (by kernel_rfl) (by kernel_rfl) ?_
          repeat (go_big_quiet_step (fail))
          refine wpQuiet_nil ?_
          rintro _ ⟨z, rfl⟩
          go_wp2_with fail
          go_roundw
          case rel => exact ⟨k + 1, by omega, by go_num, hgo.out z, hsn⟩
          case measure => simp [intOf]; omega
        · have hle' : decide (x.letter < y.letter) = true := by simp; omega
          clear hle
          refine wp_region_later_lit wr (bRefl _) (by kernel_rfl) (by kernel_rfl) ?_
          repeat (go_big_quiet_step (fail))
          refine wpQuiet_nil ?_
          rintro _ ⟨z, rfl⟩
          go_wp2_with fail
          go_ret
          exact ⟨rfl, hgo.out z⟩
    · have hk : k = l.length := by omega
      subst hk
      by_cases h60 : l.length ≤ 60
      case neg =>
        go_wp2_with fail
        go_ret
        exact ⟨rfl, hb⟩
      case pos =>
        go_wp2_with fail
        refine (check_any A c l _ (hA.more_later hb)).mono ?_
        rintro e w1 ⟨rfl, b1⟩
        replace hb := bCall hb b1
        clear b1
        have hch0 : (check l == 0) = chk none l := check_eq (by omega)
        generalize check l = ch at *
        have hch := Lib.hid hch0
        clear hch0
        go_wp2_with fail
        go_loopw [4, 6] (fun al i wr => ∃ k : Nat, k ≤ l.length ∧ i = .int .i64 k ∧ al = .bool (chk none (l.take k)) ∧ Below W.heap.size W wr ∧ Hid (∀ x y, 0 < k → l[k - 1]? = some y → l[k]? = some x → y.letter < x.letter)) (fun _ i _ => l.length - (intOf i).toNat)
        case atStart => exact ⟨0, Nat.zero_le _, rfl, rfl, hb, Lib.hid (fun x y h => by omega)⟩
        case round =>
          clear hb
          obtain ⟨k, hkn, rfl, rfl, hb, hst⟩ := hrel
          by_cases hj : k < l.length
          · obtain ⟨x, hx⟩ : ∃ x, Hid (l[k]? = some x) := ⟨_, Lib.hid (List.getElem?_eq_getElem hj)⟩
            obtain ⟨b, off, rfl, hbb, _⟩ := Ev_at (hA.below hb) hj hx.out
            go_upto_block 4 with fail
            go_cut [7] from 47 to 66 (fun s7 wc => ∃ m : Nat, k < m ∧ m ≤ l.length ∧ s7 = .int .i64 m ∧ Below W.heap.size W wc ∧ Hid (∀ j y, k ≤ j → j < m → l[j]? = some y → y.letter = x.letter) ∧ Hid (∀ y, l[m]? = some y → y.letter ≠ x.letter))
            case first =>
              go_wp2_with fail
              go_loopw [7] (fun s wr2 => ∃ m : Nat, k ≤ m ∧ m ≤ l.length ∧ s = .int .i64 m ∧ Below W.heap.size W wr2 ∧ Hid (∀ j y, k ≤ j → j < m → l[j]? = some y → y.letter = x.letter)) (fun s _ => l.length - (intOf s).toNat)
              case atStart => exact ⟨k, Nat.le_refl _, by omega, rfl, hb, Lib.hid (fun j y h1 h2 => by omega)⟩
              case round =>
                clear hb
                obtain ⟨m, hkm, hmn, rfl, hb, hall⟩ := hrel
                have hgo : Hid (∀ z : Later, Below W.heap.size W (later wr z)) := fun z => bCall hb (later_below _ z)
                have hbw : b < wr.heap.size := Nat.lt_of_lt_of_le hbb hb.size
                go_upto_region 16 with fail
                by_cases hm : m < l.length
                · obtain ⟨z, hz⟩ : ∃ z, Hid (l[m]? = some z) := ⟨_, Lib.hid (List.getElem?_eq_getElem hm)⟩
                  obtain ⟨e0, _, _, _⟩ := Ev_cells (hA.below hb) hj hx.out
                  obtain ⟨e1, _, _, _⟩ := Ev_cells (hA.below hb) hm hz.out
                  by_cases hzx : z.letter = x.letter
                  · have hzx' : (z.letter == x.letter) = true := beq_iff_eq.2 hzx
                    have hall2 : Hid (∀ j y, k ≤ j → j < m + 1 → l[j]? = some y → y.letter = x.letter) := by
                      intro j y h1 h2 h3
                      by_cases e : j = m
                      · subst e
                        rw [hz.out] at h3
                        injection h3 with h3
                        subst h3
                        exact hzx
                      · exact hall.out j y h1 (by omega) h3
                    clear hzx
                    refine wp_region_later_lit wr (bRefl _) (by kernel_rfl) (by kernel_rfl) ?_
                    repeat (go_big_quiet_step (fail))
                    refine wpQuiet_nil ?_
                    rintro _ ⟨z, rfl⟩
                    go_wp2_with fail
                    go_roundw
                    case rel => exact ⟨m + 1, by omega, by omega, by go_num, hgo.out z, hall2⟩
                    case measure => simp [intOf]; omega
                  · have hzx' : (z.letter == x.letter) = false := beq_eq_false_iff_ne.2 hzx
                    have hne : k ≠ m := by
                      intro e
                      subst e
                      have := hz.out
                      rw [hx.out] at this
                      injection this with this
                      exact hzx (by rw [this])
                    have hnext : Hid (∀ y, l[m]? = some y → y.letter ≠ x.letter) := by
                      intro y h1
                      rw [hz.out] at h1
                      injection h1 with h1
                      subst h1
                      exact hzx
                    clear hzx
                    refine wp_region_later_lit wr (bRefl _) (by kernel_rfl) (by kernel_rfl) ?_
                    repeat (go_big_quiet_step (fail))
                    refine wpQuiet_nil ?_
                    rintro _ ⟨z, rfl⟩
                    go_wp2_with fail
                    go_meet
                    exact ⟨m, by omega, hmn, rfl, hgo.out z, hall, hnext⟩
                · have hm' : decide ((m : Int) < (l.length : Int)) = false := by simp; omega
                  have hnext : Hid (∀ y, l[m]? = some y → y.letter ≠ x.letter) := by
                    intro y h1
                    exact absurd (List.getElem?_eq_some_iff.1 h1).1 hm
                  refine wp_region_later_lit wr (bRefl _) (by kernel_rfl) (by kernel_rfl) ?_
                  repeat (go_big_quiet_step (fail))
                  refine wpQuiet_nil ?_
                  rintro _ ⟨z, rfl⟩
                  go_wp2_with fail
                  go_meet
                  exact ⟨m, by omega, hmn, rfl, hgo.out z, hall, hnext⟩
            case rest =>
              clear hb
              obtain ⟨m, hkm, hmn, rfl, hb, hall, hnext⟩ := hcut
              have hsp : Hid (chk none (l.take m) = (chk none (l.take k) && chk none (segOf l k m))) := chk_seg hkm hmn (fun x' y' h0 h1 h2 => hst.out x' y' h0 h1 h2)
              have hkc : (k : Int) ≤ (c : Int) := by omega
              have hmc : (m : Int) ≤ (c : Int) := by omega
              have hkm' : (k : Int) ≤ (m : Int) := by omega
              have hseg := rd_seg (hA.more_later hb) (Nat.le_of_lt hkm) hmn
              obtain ⟨w1, rfl⟩ : ∃ w1 : World, w1 = wc := ⟨_, rfl⟩
              go_wp2_with fail
              refine (check_n (some ⟨b, off + k * 4, none⟩) (m - k) (c - k) (segOf l k m) w1 hseg (segOf_length hmn)).mono ?_
              rintro e w2 ⟨rfl, b1⟩
              replace hb := bCall hb b1
              clear b1 hseg
              obtain ⟨w1, rfl⟩ : ∃ w1 : World, w1 = w2 := ⟨_, rfl⟩
              have hse : Hid ((check (segOf l k m) == 0) = chk none (segOf l k m)) := check_eq (by rw [segOf_length hmn]; omega)
              go_upto_region 19 with fail
              go_cut [4] from 71 to 76 (fun s4 wc => s4 = .bool (chk none (l.take m)) ∧ w1 = wc)
              case first =>
                cases ht : chk none (l.take k)
                · go_wp2_with fail
                  go_meet
                  exact ⟨by rw [hsp.out, ht]; rfl, by first | rfl | trivial⟩
                · go_wp2_with fail
                  go_meet
                  exact ⟨by rw [hsp.out, ht, hse.out]; rfl, by first | rfl | trivial⟩
              case rest =>
                obtain ⟨rfl, rfl⟩ := hcut
                have hfresh : Hid (∀ x y, 0 < m → l[m - 1]? = some y → l[m]? = some x → y.letter < x.letter) := by
                  intro x' y' h0 h1 h2
                  have e1 := hall.out (m - 1) y' (by omega) (by omega) h1
                  have e2 := hnext.out x' h2
                  have e3 := sorted_le hs.out 1 (m - 1) y' x' h1 (by rw [← h2]; congr 1; omega)
                  omega
                cases hcl : chk none l
                case true =>
                  have h0 : (ch == 0) = true := by rw [hch.out]; exact hcl
                  have Hcl := Lib.hid hcl
                  clear hcl
                  obtain ⟨z, hz⟩ : ∃ z, Hid (l[m - 1]? = some z) := ⟨_, Lib.hid (List.getElem?_eq_getElem (by omega))⟩
                  have hzl := hall.out (m - 1) z (by omega) (by omega) hz.out
                  have hxr := (rightB_iff x).1 (chk_right none l Hcl.out x (List.mem_of_getElem? hx.out))
                  have hspan : 0 ≤ x.letter ∧ x.letter ≤ 1048576 := ⟨hxr.1, hxr.2.1⟩
                  have hkw : kindAt l x.letter = z.kind := by
                    refine kindAt_whole (k := m) (by omega) hz.out hzl (fun y hy e => ?_)
                    obtain ⟨d, hd⟩ := List.getElem?_of_mem hy
                    rw [List.getElem?_drop] at hd
                    have hml : m < l.length := by have := (List.getElem?_eq_some_iff.1 hd).1; omega
                    have h1 := hnext.out l[m] (List.getElem?_eq_getElem hml)
                    have h2 := sorted_le hs.out 1 (m - 1) z l[m] hz.out (by rw [show m - 1 + 1 = m by omega]; exact List.getElem?_eq_getElem hml)
                    have h3 := sorted_le hs.out d m l[m] y (List.getElem?_eq_getElem hml) hd
                    omega
                  have hks : kindAt (segOf l k m) x.letter = z.kind := kindAt_seg hkm hmn hz.out hzl
                  have hq1 := status_good (by omega) Hcl.out hspan hkw
                  have hq2 := status_good (by rw [segOf_length hmn]; omega) (chk_part Hcl.out hsp.out) hspan hks
                  have q1 := status_any (some ⟨b, off, none⟩) c l x.letter w1 (hA.more_later hb)
                  rw [hq1.1, hq1.2] at q1
                  clear hkw hks hq1 hxr hspan hzl
                  obtain ⟨e0, _, _, _⟩ := Ev_cells (hA.below hb) hj hx.out
                  go_wp2_with fail
                  refine q1.mono ?_
                  clear q1 e0
                  rintro e w2 ⟨rfl, b1⟩
                  replace hb := bCall hb b1
                  clear b1
                  obtain ⟨w1, rfl⟩ : ∃ w1 : World, w1 = w2 := ⟨_, rfl⟩
                  go_upto_region 22 with fail
                  have q2 : ∀ z' : Later, Calls Try.prog 10 #[.slice (some ⟨b, off + k * 4, none⟩) (m - k) (c - k), .int .i64 x.letter] (later w1 z') (RetIE z.kind 0 (later w1 z')) := by
                    intro z'
                    have q := status_n (some ⟨b, off + k * 4, none⟩) (m - k) (c - k) (segOf l k m) x.letter (later w1 z') (rd_seg (hA.more_later (bCall hb (later_below _ z'))) (Nat.le_of_lt hkm) hmn) (segOf_length hmn)
                    rw [hq2.1, hq2.2] at q
                    exact q
                  clear hq2
                  obtain ⟨e0, _, _, _⟩ := Ev_cells (hA.below hb) hj hx.out
                  obtain ⟨_, e1, _, _⟩ := Ev_cells (hA.below hb) (k := m - 1) (by omega) hz.out
                  have hbw : b < w1.heap.size := Nat.lt_of_lt_of_le hbb hb.size
                  have hgo : Hid (∀ z : Later, Below W.heap.size W (later w1 z)) := fun z => bCall hb (later_below _ z)
                  refine wp_region_later_lit w1 (bRefl _) (by kernel_rfl) (by kernel_rfl) ?_
                  repeat (go_big_quiet_step (first | (go_at_call 10; exact later_ret_ie (q2 _))))
                  refine wpQuiet_nil ?_
                  rintro _ ⟨z, rfl⟩
                  go_wp2_with fail
                  go_roundw
                  case rel => exact ⟨m, by omega, by first | rfl | go_num, rfl, hgo.out z, hfresh⟩
                  case measure => simp [intOf]; omega
                case false =>
                  have h0 : (ch == 0) = false := by rw [hch.out]; exact hcl
                  clear hcl
                  go_wp2_with fail
                  go_roundw
                  case rel => exact ⟨m, by omega, by first | rfl | go_num, rfl, hb, hfresh⟩
                  case measure => simp [intOf]; omega
          · have hk : k = l.length := by omega
            subst hk
            rw [List.take_length]
            cases hcl : chk none l
            · have h0 : (ch == 0) = false := by rw [hch.out]; exact hcl
              go_wp2_with fail
              go_ret
              exact ⟨rfl, hb⟩
            · have h0 : (ch == 0) = true := by rw [hch.out]; exact hcl
              go_wp2_with fail
              go_ret
              exact ⟨rfl, hb⟩

set_option maxRecDepth 100000 in
theorem apart_lifted (os : Os) (started : os.Started) (H : Type) (enc : TypeId × Value → H) :
    ReturnsInHanded {} Try.checked os 6 .any (Rows.custodyApartSpec.pre6 enc Try.prog Try.f6 Rows.custodyApartRow.domain false) (Rows.custodyApartSpec.post enc Try.prog Try.f6 false true false false) := by
  refine returnsInHanded_of_change (C := Try.checked) own_knob started (by kernel_rfl) Try.func6
    (ChangeSpec.witness6 (enc := enc) (C := Try.checked) false ⟨#[], #[.slice none 0 0], []⟩ 8 (by kernel_rfl) (by kernel_rfl) (by kernel_rfl) (by kernel_rfl)) ?_
  intro W base args ds gs before hval0 hW hcnd _
  have hval : ∀ (j : Nat) t v, Try.f6.params[j]? = some t → args[j]? = some v → Value.okWide Try.prog W .any base t v := hval0
  have hW' := hW
  obtain ⟨p, q, hA0, hV, rfl, hfz, hnd⟩ := hW
  have hA : DataW.TrodAll enc Try.prog W 0 (fun _ => true) true Try.f6.params.toList args.toList ds p := hA0
  rw [Try.params6] at hA hval
  obtain ⟨v0, d0, rfl, rfl, h0⟩ := trodAll_one hA
  obtain ⟨rfl, rfl⟩ := trodVars_none hV
  obtain ⟨A, n, c, rfl⟩ := okWide_slice Try.underlying22 (hval 0 22 v0 rfl rfl)
  have k0 := h0
  obtain ⟨f0, hf0⟩ := h0
  obtain ⟨hcap, hcap2⟩ := open_cap Try.underlying22 hf0
  obtain ⟨A', n', c', l, e0, hn, hn2, hAr⟩ := open_events hf0
  simp [Value.cells] at e0
  obtain ⟨rfl, rfl, rfl⟩ := e0
  clear hA0 hval0
  subst hn
  unfold maxLen at hcap2
  refine (apart_walk A c l W hAr hcap hcap2).mono fun e W' ⟨he, bel⟩ => ?_
  subst he
  exact ⟨_, rfl, _, _, _, [], _, [], hW', trodAll_mk1 (shut_bool Try.underlying4 _), (trodAll_mk1 (arg_stays (by kernel_rfl) (of_decide_eq_true (by kernel_rfl)) k0 bel)), rfl, bel.frame _, fun h => by cases h⟩

theorem custodyApart_holds : Rows.CustodyApartSaid :=
  OpenClaim.holds_of_wide 6 Try.f6 rfl rfl rfl rfl rfl rfl rfl ⟨rfl, rfl, rfl, rfl, rfl⟩ rfl rfl rfl rfl rfl (by kernel_rfl) Try.func6 (by kernel_rfl)
    (of_decide_eq_true (by kernel_rfl)) (by unfold Func.isWrapper; first | (rw [if_pos (by decide +kernel)]; kernel_rfl) | (rw [if_neg (by decide +kernel)]; exact ⟨rfl, rfl⟩))
    (fun os started H enc _ => apart_lifted os started H enc)
#print axioms custodyApart_holds

end Go.Proofs.Ytcadkfaaogclfaa
