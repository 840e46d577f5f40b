/- timetable.Check; tariff.Check; walked. -/
import Derived.Test.YtmbopkcmbiommaaGreatDoorRag
import Derived.Laws.EntriesVeiled
set_option maxRecDepth 1000000
set_option maxHeartbeats 16000000
namespace Go.Proofs.YtmbopkcmbiommaaGreatDoor
open Go Go.RowKit
def LinsAt (w : World) (B : Nat) (A : Option Addr) (l : List Lin) : Prop :=
  ∃ ls : List LS, ls.length = l.length ∧ Rd w B 6 A l.length (linsCl ls l) ∧ ∀ (k : Nat) (y : Lin), l[k]? = some y → ∃ q, ls[k]? = some q ∧ LinAt w B q y
theorem LinsAt.below {w w' : World} {B : Nat} {A : Option Addr} {l : List Lin} (h : LinsAt w B A l) (b : Below B w w') : LinsAt w' B A l := by
  obtain ⟨ls, l1, l2, l3⟩ := h
  exact ⟨ls, l1, l2.below b, fun k y hy => by obtain ⟨q, e, r⟩ := l3 k y hy; exact ⟨q, e, r.below b⟩⟩
theorem LinsAt.more {w : World} {B B' : Nat} {A : Option Addr} {l : List Lin} (h : LinsAt w B A l) (b : B ≤ B') : LinsAt w B' A l := by
  obtain ⟨ls, l1, l2, l3⟩ := h
  exact ⟨ls, l1, l2.more b, fun k y hy => by obtain ⟨q, e, r⟩ := l3 k y hy; exact ⟨q, e, r.more b⟩⟩
theorem LinsAt.at_ {w : World} {B k : Nat} {A : Option Addr} {l : List Lin} {y : Lin} (h : LinsAt w B A l) (hy : l[k]? = some y) : ∃ b off q, A = some ⟨b, off, none⟩ ∧ b < B ∧ LinAt w B q y ∧ ∀ j, j < 6 → w.cell? ⟨b, off + k * 6 + j, none⟩ = (q.cl y)[j]? := by
  obtain ⟨ls, l1, l2, l3⟩ := h
  obtain ⟨q, hq, hr⟩ := l3 k y hy
  have hz : (ls.zip l)[k]? = some (q, y) := by rw [List.getElem?_zip_eq_some]; exact ⟨hq, hy⟩
  obtain ⟨b, off, e, hb, hc⟩ := Cl_at (f := fun p : LS × Lin => p.1.cl p.2) (l := ls.zip l) (fun _ _ => rfl) l2 (List.getElem?_eq_some_iff.1 hy).1 hz
  exact ⟨b, off, q, e, hb, hr, hc⟩
theorem table_no {n : Int} {l : List Lin} {k : Nat} {x : Lin} (h : l[k]? = some x) (hb : x.right n = false) (h1 : l.length ≤ 64) (h2 : btw n 0 24 = true) : tableE n l = 200 := by
  unfold tableE
  rw [if_neg (by omega), if_pos h2, if_neg (by rw [all_no (p := fun x : Lin => x.right n) h hb]; simp)]
theorem table_yes {n : Int} {l : List Lin} (h : ∀ x ∈ l, x.right n = true) (h1 : l.length ≤ 64) (h2 : btw n 0 24 = true) : tableE n l = calsE l := by
  unfold tableE
  rw [if_neg (by omega), if_pos h2, if_pos (List.all_eq_true.2 h)]
def Lin.short (x : Lin) : Prop := x.offs.length ≤ 1000000 ∧ x.legs.length ≤ 1000000 ∧ x.rules.length ≤ 1000000 ∧ x.off.length ≤ 1000000
theorem tt_check (n : Int) (A : Option Addr) (c : Nat) (l : List Lin) (W : World) (hA : LinsAt W W.heap.size A l) (hn : l.length ≤ 1000000) (hs : ∀ x ∈ l, x.short) :
    Calls Tryz.prog 63 #[.agg #[.int .i64 n, .slice A l.length c]] W (Ret (.int .i64 (tableE n l)) W) := by
  obtain ⟨v, hv⟩ : ∃ v, Hid (tableE n l = v) := ⟨_, Lib.hid rfl⟩
  rw [hv.out]
  have BT := Blk.new W 24 #[.int .i64 n, .slice A l.length c] _ rfl
  have hb := bAl (bRefl W) (.cells #[.int .i64 n, .slice A l.length c] 24)
  go_enter Tryz.func63, Tryz.ntmps63
  go_upto_region 1 with fail
  generalize W.alloc (.cells #[.int .i64 n, .slice A l.length c] 24) = w1 at *
  have d0 := BT.cell 0
  have d1 := BT.cell 1
  by_cases l1 : 64 < l.length
  · have hv2 : Hid (v = 2) := Lib.hid (by rw [← hv.out]; unfold tableE; rw [if_pos l1])
    have e1 : (64 : Int) < (l.length : Int) := by omega
    clear l1
    go_wp2_with fail
    go_ret
    exact ⟨ret_int hv2.out.symm, hb⟩
  have e1 : ¬ (64 : Int) < (l.length : Int) := by omega
  have q := tt_between n 0 24 w1
  by_cases hbt : btw n 0 24 = true
  case neg =>
    have hv2 : Hid (v = 200) := Lib.hid (by rw [← hv.out]; unfold tableE; rw [if_neg l1, if_neg hbt])
    rw [show btw n 0 24 = false by simpa using hbt] at q
    clear hbt l1
    go_wp2_with fail
    (with_reducible refine q.mono ?_)
    rintro e w2 ⟨rfl, rfl⟩
    go_wp2_with fail
    go_ret
    exact ⟨ret_int hv2.out.symm, hb⟩
  have hno : Hid (∀ (k : Nat) x, l[k]? = some x → x.right n = false → v = 200) := Lib.hid (fun k r h hb => by rw [← hv.out]; exact table_no h hb (by omega) hbt)
  have hyes : Hid ((∀ x ∈ l, x.right n = true) → v = calsE l) := Lib.hid (fun h => by rw [← hv.out]; exact table_yes h (by omega) hbt)
  rw [hbt] at q
  have hn24 : 0 ≤ n ∧ n ≤ 24 := by unfold btw at hbt; simpa using hbt
  obtain ⟨m, rfl⟩ : ∃ m : Nat, n = (m : Int) := ⟨n.toNat, by omega⟩
  clear hbt l1
  go_wp2_with fail
  (with_reducible refine q.mono ?_)
  rintro e w2 ⟨rfl, rfl⟩
  clear q
  go_wp2_with fail
  clear d0 d1
  go_loopw [18] (fun i wr => ∃ k : Nat, k ≤ l.length ∧ i = .int .i64 k ∧ Below W.heap.size W wr ∧ Blk wr W.heap.size 24 #[.int .i64 (m : Nat), .slice A l.length c] ∧ Hid (∀ x ∈ l.take k, x.right (m : Nat) = true)) (fun i _ => l.length - (intOf i).toNat)
  case atStart => exact ⟨0, Nat.zero_le _, rfl, hb, BT, Lib.hid (by simp)⟩
  case round =>
    clear hb BT
    obtain ⟨k, hkn, rfl, hb, BT, hp⟩ := hrel
    by_cases hlt : k < l.length
    · obtain ⟨x, hx⟩ : ∃ x, Hid (l[k]? = some x) := ⟨_, Lib.hid (List.getElem?_eq_getElem hlt)⟩
      have hsx := hs x (List.mem_of_getElem? hx.out)
      obtain ⟨b, off, s, rfl, hbb, hL, hc⟩ := (hA.below hb).at_ hx.out
      have c0 := hc 0 (by omega)
      have c1 := hc 1 (by omega)
      have c2 := hc 2 (by omega)
      have c3 := hc 3 (by omega)
      have c4 := hc 4 (by omega)
      have c5 := hc 5 (by omega)
      simp only [LS.cl, List.getElem?_cons_zero, List.getElem?_cons_succ, Nat.add_zero] at c0 c1 c2 c3 c4 c5
      have i0 : (0 : Int) ≤ (k : Int) := by omega
      have i1 : (k : Int) < (l.length : Int) := by omega
      have hb2 := bAl hb (.cells (s.cl x).toArray 56)
      have hbz := hb.size
      have q := ln_right s x m (wr.alloc (.cells (s.cl x).toArray 56)) ⟨(hL.r0.more hbz).alloc (Nat.le_refl _) _ |>.more (by simp), (hL.r1.more hbz).alloc (Nat.le_refl _) _ |>.more (by simp), (hL.r2.more hbz).alloc (Nat.le_refl _) _ |>.more (by simp), (hL.r3.more hbz).alloc (Nat.le_refl _) _ |>.more (by simp)⟩ hsx.1 hsx.2.1 (by omega)
      have BT2 := BT.alloc (.cells (s.cl x).toArray 56)
      have hp1 := Lib.hid (fun h => all_on (p := fun x : Lin => x.right (m : Nat)) hp.out hx.out h)
      have hp0 := Lib.hid (fun h => hno.out k x hx.out h)
      generalize x.right (m : Nat) = ok at q hp1 hp0
      unfold L7 at q
      unfold LS.cl at q hb2 BT2
      have d0 := BT2.cell 0
      clear hc hL hsx
      go_wp2_with fail
      (with_reducible refine q.mono ?_)
      rintro e w3 ⟨rfl, b3⟩
      clear q c0 c1 c2 c3 c4 c5 d0
      replace BT := BT2.below b3 BT2.lt
      replace hb := bCall hb2 b3
      clear BT2 hb2
      cases ok
      · have hv2 := Lib.hid (hp0.out rfl)
        clear hp0 hp1
        go_wp2_with fail
        go_ret
        exact ⟨ret_int hv2.out.symm, hb⟩
      · have hp2 := Lib.hid (hp1.out rfl)
        clear hp0 hp1
        go_wp2_with fail
        exact ⟨⟨k + 1, by omega, by go_num, hb, BT, hp2⟩, by simp [intOf]; omega⟩
    · have hv3 := Lib.hid (hyes.out (by have := hp.out; rwa [List.take_of_length_le (by omega)] at this))
      clear hp hyes hno
      obtain ⟨w2, rfl⟩ : ∃ w, w = wr := ⟨_, rfl⟩
      have d1 := BT.cell 1
      go_wp2_with fail
      clear d1
      go_loopw [2, 32] (fun _ i wr => ∃ k : Nat, k ≤ l.length ∧ i = .int .i64 k ∧ Below W.heap.size W wr ∧ Hid (calsE l = calsE (l.drop k))) (fun _ i _ => l.length - (intOf i).toNat)
      case atStart => exact ⟨0, Nat.zero_le _, rfl, hb, Lib.hid rfl⟩
      case round =>
        clear hb BT
        obtain ⟨k, hkn, rfl, hb, hp⟩ := hrel
        by_cases hlt : k < l.length
        · obtain ⟨x, hx⟩ : ∃ x, Hid (l[k]? = some x) := ⟨_, Lib.hid (List.getElem?_eq_getElem hlt)⟩
          have hsx := hs x (List.mem_of_getElem? hx.out)
          obtain ⟨b, off, s, rfl, hbb, hL, hc⟩ := (hA.below hb).at_ hx.out
          have c0 := hc 0 (by omega)
          have c1 := hc 1 (by omega)
          have c2 := hc 2 (by omega)
          have c3 := hc 3 (by omega)
          have c4 := hc 4 (by omega)
          have c5 := hc 5 (by omega)
          simp only [LS.cl, List.getElem?_cons_zero, List.getElem?_cons_succ, Nat.add_zero] at c0 c1 c2 c3 c4 c5
          have i0 : (0 : Int) ≤ (k : Int) := by omega
          have i1 : (k : Int) < (l.length : Int) := by omega
          have hb2 := bAl hb (.cells (s.cl x).toArray 56)
          have hbz := hb.size
          have q := cal_check s.a2 s.a3 s.c2 s.c3 x.rules x.off (wr.alloc (.cells (s.cl x).toArray 56)) ((hL.r2.more hbz).alloc (Nat.le_refl _) _ |>.more (by simp)) ((hL.r3.more hbz).alloc (Nat.le_refl _) _ |>.more (by simp)) hsx.2.2.1 hsx.2.2.2
          have hdr : Hid (calsE l = if calE x.rules x.off = 0 then calsE (l.drop (k + 1)) else calE x.rules x.off) := Lib.hid (by
            obtain ⟨e1, e2⟩ := List.getElem?_eq_some_iff.1 hx.out
            rw [hp.out, List.drop_eq_getElem_cons e1, e2]; rfl)
          generalize calE x.rules x.off = E at q hdr
          unfold LS.cl at q hb2
          clear hc hL hsx hp
          go_wp2_with fail
          (with_reducible refine q.mono ?_)
          rintro e w3 ⟨rfl, b3⟩
          clear q c0 c1 c2 c3 c4 c5
          replace hb := bCall hb2 b3
          by_cases hE : E = 0
          · subst hE
            have hp' : Hid (calsE l = calsE (l.drop (k + 1))) := Lib.hid (by rw [hdr.out, if_pos rfl])
            clear hdr
            go_wp2_with fail
            exact ⟨⟨k + 1, by omega, by go_num, hb, hp'⟩, by simp [intOf]; omega⟩
          · have hv2 : Hid (v = E) := Lib.hid (by rw [hv3.out, hdr.out, if_neg hE])
            have hne : (E != 0) = true := by simpa using hE
            clear hdr hE
            go_wp2_with fail
            go_ret
            exact ⟨ret_int hv2.out.symm, hb⟩
        · have hv2 : Hid (v = 0) := Lib.hid (by rw [hv3.out, hp.out, List.drop_of_length_le (by omega)]; rfl)
          clear hp
          go_wp2_with fail
          go_ret
          exact ⟨ret_int hv2.out.symm, hb⟩
theorem t_price (k n : Int) (W : World) : Calls Tryz.prog 108 #[.int .i64 k, .int .i64 n] W (Same (.bool (priceB n)) W) := by
  unfold priceB btw
  cases h1 : decide (0 ≤ n) <;> cases h2 : decide (n ≤ 1048576)
  all_goals
    go_enter Tryz.func108, Tryz.ntmps108
    go_wp2_with fail
    go_ret
    exact ⟨by simp_all, rfl⟩
theorem all_price (A : Option Addr) (c : Nat) (l : List Int) (W : World) (hA : Rd W W.heap.size 1 A l.length (ints l)) (hn : l.length ≤ 1000000) :
    Calls Tryz.prog 110 #[.func (.func 108) #[] #[], .slice A l.length c] W (Same (.bool (l.all priceB)) W) := by
  have hen := Lib.hid (enters_of Tryz.func108 (by kernel_rfl) rfl)
  obtain ⟨v, hv⟩ : ∃ v, Hid (l.all priceB = v) := ⟨_, Lib.hid rfl⟩
  rw [hv.out]
  go_enter Tryz.func110, Tryz.ntmps110
  go_wp2_with fail
  go_loopw [9] (fun i wr => ∃ k : Nat, k ≤ l.length ∧ i = .int .i64 k ∧ W = wr ∧ Hid (∀ y ∈ l.take k, priceB y = true)) (fun i _ => l.length - (intOf i).toNat)
  case atStart => exact ⟨0, Nat.zero_le _, rfl, rfl, Lib.hid (by simp)⟩
  case round =>
    obtain ⟨k, hkn, rfl, rfl, hp⟩ := hrel
    by_cases hlt : k < l.length
    · obtain ⟨x, hx⟩ : ∃ x, Hid (l[k]? = some x) := ⟨_, Lib.hid (List.getElem?_eq_getElem hlt)⟩
      obtain ⟨b, off, rfl, hbb, c0⟩ := Int_at hA hlt hx.out
      have q := t_price (k : Nat) x W
      have he := hen.out
      have i0 : (0 : Int) ≤ (k : Int) := by omega
      have i1 : (k : Int) < (l.length : Int) := by omega
      cases hg : priceB x
      · have hres := Lib.hid (hv.out.symm.trans (all_no hx.out hg))
        rw [hg] at q
        clear hg
        go_wp2_with fail
        (with_reducible refine q.mono ?_)
        rintro e w1 ⟨rfl, rfl⟩
        clear q he
        go_wp2_with fail
        go_ret
        exact ⟨ret_bool hres.out.symm, rfl⟩
      · have hp' := Lib.hid (all_on hp.out hx.out hg)
        rw [hg] at q
        clear hg
        go_wp2_with fail
        (with_reducible refine q.mono ?_)
        rintro e w1 ⟨rfl, rfl⟩
        clear q he
        go_wp2_with fail
        exact ⟨⟨k + 1, by omega, by go_num, trivial, hp'⟩, by simp [intOf]; omega⟩
    · have hres : Hid (v = true) := Lib.hid (hv.out.symm.trans (List.all_eq_true.2 (by have := hp.out; rwa [List.take_of_length_le (by omega)] at this)))
      go_wp2_with fail
      go_ret
      exact ⟨ret_bool hres.out.symm, rfl⟩
def prevT (l : List Tie) : Nat → Int
  | 0 => 0
  | k + 1 => ((l[k]?).map Tie.from_).getD 0
theorem prevT_succ {l : List Tie} {k : Nat} {x : Tie} (h : l[k]? = some x) : prevT l (k + 1) = x.from_ := by show ((l[k]?).map Tie.from_).getD 0 = _; rw [h]; rfl
theorem t_tier (T F : Nat) (v0 v1 : Value) (A : Option Addr) (c k : Nat) (l : List Tie) (x : Tie) (W : World) (hT : Blk W T 28 #[v0, v1, .slice A l.length c]) (hF : Blk W F 93 #[.func (.func 108) #[] #[]])
    (hA : Rd W W.heap.size 2 A l.length (l.flatMap Tie.cl)) (hn : l.length ≤ 1000000) (hk : l[k]? = some x) :
    Calls Tryz.prog 109 #[.int .i64 k, .agg #[.int .i64 x.from_, .int .i64 x.extra], .pointer (some ⟨T, 0, none⟩), .pointer (some ⟨F, 0, none⟩)] W (Ret (.bool (decide (prevT l k < x.from_) && priceB x.extra)) W) := by
  have hen := enters_of Tryz.func108 (by kernel_rfl) rfl
  have hkn := (List.getElem?_eq_some_iff.1 hk).1
  have BX := Blk.new W 63 #[.int .i64 x.from_, .int .i64 x.extra] _ rfl
  have BT := hT.alloc (.cells #[.int .i64 x.from_, .int .i64 x.extra] 63)
  have BF := hF.alloc (.cells #[.int .i64 x.from_, .int .i64 x.extra] 63)
  have hb := bAl (bRefl W) (.cells #[.int .i64 x.from_, .int .i64 x.extra] 63)
  have hA1 := hA.below hb
  have q := Lib.hid (fun i : Int => t_price i x.extra (W.alloc (.cells #[.int .i64 x.from_, .int .i64 x.extra] 63)))
  have hpv : Hid (∀ j y, k = j + 1 → l[j]? = some y → prevT l k = y.from_) := Lib.hid (fun j y e h => by rw [e]; exact prevT_succ h)
  have hp0 : Hid (k = 0 → prevT l k = 0) := Lib.hid (fun e => by rw [e]; rfl)
  obtain ⟨p, hpe⟩ : ∃ p, Hid (prevT l k = p) := ⟨_, Lib.hid rfl⟩
  rw [hpe.out] at hpv hp0 ⊢
  generalize hpr : priceB x.extra = pr at q ⊢
  clear hpr
  go_enter Tryz.func109, Tryz.ntmps109
  go_upto_region 2 with fail
  have d0 := BX.cell 0
  have d1 := BX.cell 1
  have f0 := BF.cell 0
  have t2 := BT.cell 2
  generalize W.alloc (.cells #[.int .i64 x.from_, .int .i64 x.extra] 63) = w1 at *
  rcases k with _ | j
  · obtain rfl := hp0.out rfl
    have i0 : ¬ (0 : Int) < ((0 : Nat) : Int) := by omega
    cases hd : decide (0 < x.from_)
    · have e0 := of_decide_eq_false hd
      clear q hpv
      go_wp2_with fail
      go_ret
      exact ⟨rfl, hb⟩
    · have e0 := of_decide_eq_true hd
      go_wp2_with fail
      (with_reducible refine (q.out _).mono ?_)
      rintro e w3 ⟨rfl, rfl⟩
      go_wp2_with fail
      go_ret
      exact ⟨ret_bool (by simp [e0]), hb⟩
  · obtain ⟨y, hy⟩ : ∃ y, Hid (l[j]? = some y) := ⟨_, Lib.hid (List.getElem?_eq_getElem (by omega))⟩
    obtain rfl := hpv.out j y rfl hy.out
    obtain ⟨b, off, rfl, hbb, hc⟩ := Cl_at (f := Tie.cl) (fun _ _ => rfl) hA1 (by omega : j < l.length) hy.out
    have c0 := hc 0 (by omega)
    simp only [Tie.cl, List.getElem?_cons_zero, Nat.add_zero] at c0
    have i0 : (0 : Int) < ((j + 1 : Nat) : Int) := by omega
    have iw : IntKind.i64.wrap (((j + 1 : Nat) : Int) - 1) = (j : Int) := by rw [IntKind.wrap_i64]; omega
    have i1 : (0 : Int) ≤ (j : Int) := by omega
    have i2 : (j : Int) < (l.length : Int) := by omega
    clear hc hpv hp0
    cases hd : decide (y.from_ < x.from_)
    · have e0 := of_decide_eq_false hd
      clear q
      go_wp2_with fail
      go_ret
      exact ⟨rfl, hb⟩
    · have e0 := of_decide_eq_true hd
      go_wp2_with fail
      (with_reducible refine (q.out _).mono ?_)
      rintro e w3 ⟨rfl, rfl⟩
      go_wp2_with fail
      go_ret
      exact ⟨ret_bool (by simp [e0]), hb⟩
theorem all_tier (T F : Nat) (v0 v1 : Value) (A : Option Addr) (c c2 : Nat) (l : List Tie) (W : World) (hT : Blk W T 28 #[v0, v1, .slice A l.length c]) (hF : Blk W F 93 #[.func (.func 108) #[] #[]])
    (hA : Rd W W.heap.size 2 A l.length (l.flatMap Tie.cl)) (hn : l.length ≤ 1000000) :
    Calls Tryz.prog 111 #[.func (.func 109) #[] #[.pointer (some ⟨T, 0, none⟩), .pointer (some ⟨F, 0, none⟩)], .slice A l.length c2] W (Ret (.bool (tiersB 0 l)) W) := by
  have hen := Lib.hid (enters_of Tryz.func109 (by kernel_rfl) rfl)
  obtain ⟨v, hv⟩ : ∃ v, Hid (tiersB 0 l = v) := ⟨_, Lib.hid rfl⟩
  rw [hv.out]
  go_enter Tryz.func111, Tryz.ntmps111
  go_wp2_with fail
  go_loopw [9] (fun i wr => ∃ k : Nat, k ≤ l.length ∧ i = .int .i64 k ∧ Below W.heap.size W wr ∧ Hid (tiersB 0 l = tiersB (prevT l k) (l.drop k))) (fun i _ => l.length - (intOf i).toNat)
  case atStart => exact ⟨0, Nat.zero_le _, rfl, bRefl W, Lib.hid rfl⟩
  case round =>
    obtain ⟨k, hkn, rfl, hb, hp⟩ := hrel
    by_cases hlt : k < l.length
    · obtain ⟨x, hx⟩ : ∃ x, Hid (l[k]? = some x) := ⟨_, Lib.hid (List.getElem?_eq_getElem hlt)⟩
      have hA1 := hA.below hb
      have hTr := hT.below hb hT.lt
      have hFr := hF.below hb hF.lt
      obtain ⟨b, off, rfl, hbb, hc⟩ := Cl_at (f := Tie.cl) (fun _ _ => rfl) hA1 hlt hx.out
      have c0 := hc 0 (by omega)
      have c1 := hc 1 (by omega)
      simp only [Tie.cl, List.getElem?_cons_zero, List.getElem?_cons_succ, Nat.add_zero] at c0 c1
      have hb2 := bAl hb (.cells #[.int .i64 x.from_, .int .i64 x.extra] 63)
      have q := t_tier T F v0 v1 (some ⟨b, off, none⟩) c k l x (wr.alloc (.cells #[.int .i64 x.from_, .int .i64 x.extra] 63)) (hTr.alloc _) (hFr.alloc _) ((hA1.more hb.size).alloc (Nat.le_refl _) _ |>.more (by simp)) hn hx.out
      have BX := Blk.new wr 63 #[.int .i64 x.from_, .int .i64 x.extra] _ rfl
      have d0 := BX.cell 0
      have d1 := BX.cell 1
      have he := hen.out
      have i0 : (0 : Int) ≤ (k : Int) := by omega
      have i1 : (k : Int) < (l.length : Int) := by omega
      have hdr : Hid (tiersB 0 l = ((decide (prevT l k < x.from_) && priceB x.extra) && tiersB (prevT l (k + 1)) (l.drop (k + 1)))) := Lib.hid (by
        obtain ⟨e1, e2⟩ := List.getElem?_eq_some_iff.1 hx.out
        rw [hp.out, List.drop_eq_getElem_cons e1, e2, prevT_succ hx.out]; rfl)
      generalize (decide (prevT l k < x.from_) && priceB x.extra) = ok at q hdr
      clear hc hp BX hA1 hTr hFr
      cases ok
      · have hres : Hid (v = false) := Lib.hid (by rw [← hv.out, hdr.out]; rfl)
        clear hdr
        go_wp2_with fail
        (with_reducible refine q.mono ?_)
        rintro e w1 ⟨rfl, b1⟩
        replace hb := bCall hb2 b1
        clear q he hb2
        go_wp2_with fail
        go_ret
        exact ⟨ret_bool hres.out.symm, hb⟩
      · have hp' : Hid (tiersB 0 l = tiersB (prevT l (k + 1)) (l.drop (k + 1))) := Lib.hid (by rw [hdr.out, Bool.true_and])
        clear hdr
        go_wp2_with fail
        (with_reducible refine q.mono ?_)
        rintro e w1 ⟨rfl, b1⟩
        replace hb := bCall hb2 b1
        clear q he hb2 c0 c1 d0 d1
        go_wp2_with fail
        exact ⟨⟨k + 1, by omega, by go_num, hb, hp'⟩, by simp [intOf]; omega⟩
    · have hres : Hid (v = true) := Lib.hid (by rw [← hv.out, hp.out, List.drop_of_length_le (by omega)]; rfl)
      go_wp2_with fail
      go_ret
      exact ⟨ret_bool hres.out.symm, hb⟩
theorem if_pos_and {p q : Prop} [Decidable p] [Decidable q] {a b : Int} (h : p) : (if p ∧ q then a else b) = if q then a else b := by
  by_cases hq : q
  · rw [if_pos ⟨h, hq⟩, if_pos hq]
  · rw [if_neg (fun x => hq x.2), if_neg hq]
theorem tariff_eq (b g : List Int) (t : List Tie) : tariffE b g t = if (b.length = g.length ∧ 1 ≤ b.length ∧ b.length ≤ 8 ∧ t.length ≤ 16) ∧ b.all priceB = true ∧ g.all priceB = true ∧ tiersB 0 t = true then 0 else 210 := by
  unfold tariffE
  congr 1
  simp only [Bool.and_eq_true, decide_eq_true_iff]
  rw [eq_iff_iff]
  constructor
  · rintro ⟨h1, h2, h3, h4, h5, h6, h7⟩; exact ⟨⟨h1, h2, h3, h4⟩, h5, h6, h7⟩
  · rintro ⟨⟨h1, h2, h3, h4⟩, h5, h6, h7⟩; exact ⟨h1, h2, h3, h4, h5, h6, h7⟩
theorem tariff_check (A0 A1 A2 : Option Addr) (c0 c1 c2 : Nat) (b g : List Int) (t : List Tie) (W : World) (h0 : Rd W W.heap.size 1 A0 b.length (ints b)) (h1 : Rd W W.heap.size 1 A1 g.length (ints g)) (h2 : Rd W W.heap.size 2 A2 t.length (t.flatMap Tie.cl)) (n0 : b.length ≤ 1000000) (n1 : g.length ≤ 1000000) (n2 : t.length ≤ 1000000) :
    Calls Tryz.prog 64 #[.agg #[.slice A0 b.length c0, .slice A1 g.length c1, .slice A2 t.length c2]] W (Ret (.int .i64 (tariffE b g t)) W) := by
  have hmf : ∀ (fn : Fn) (first cap : Array Value) (w : World), (Instr.makeFunc fn first cap).run Tryz.prog w = .ok (.func fn first cap) w := fun _ _ _ _ => rfl
  obtain ⟨v, hv⟩ : ∃ v, Hid (tariffE b g t = v) := ⟨_, Lib.hid rfl⟩
  have hv2 : Hid ((if (b.length = g.length ∧ 1 ≤ b.length ∧ b.length ≤ 8 ∧ t.length ≤ 16) ∧ b.all priceB = true ∧ g.all priceB = true ∧ tiersB 0 t = true then (0 : Int) else 210) = v) := Lib.hid (by rw [← tariff_eq]; exact hv.out)
  rw [hv.out]
  clear hv
  have BT := Blk.new W 28 #[.slice A0 b.length c0, .slice A1 g.length c1, .slice A2 t.length c2] _ rfl
  have hb := bAl (bRefl W) (.cells #[.slice A0 b.length c0, .slice A1 g.length c1, .slice A2 t.length c2] 28)
  go_enter Tryz.func64, Tryz.ntmps64
  go_upto_region 1 with fail
  have t0 := BT.cell 0
  generalize W.alloc (.cells #[.slice A0 b.length c0, .slice A1 g.length c1, .slice A2 t.length c2] 28) = w1 at *
  go_upto_region 2 with fail
  have hwl : W.heap.size < w1.heap.size := BT.lt
  have BF := Blk.new w1 93 #[.func (.func 108) #[] #[]] _ rfl
  have hb2 := bAl hb (.cells #[.func (.func 108) #[] #[]] 93)
  have BT2 := BT.alloc (.cells #[.func (.func 108) #[] #[]] 93)
  go_upto_region 3 with fail
  clear t0
  have t0 := BT2.cell 0
  have t1 := BT2.cell 1
  have t2 := BT2.cell 2
  have f0 := BF.cell 0
  have h0' := (h0.below hb2).more hb2.size
  have h1' := (h1.below hb2).more hb2.size
  have h2' := (h2.below hb2).more hb2.size
  clear BT hb h0 h1 h2
  generalize w1.heap.size = F at *
  generalize w1.alloc (.cells #[.func (.func 108) #[] #[]] 93) = w2 at *
  have q0 := all_price A0 c0 b w2 h0' n0
  have q1 := all_price A1 c1 g w2 h1' n1
  have q2 := all_tier W.heap.size F _ _ A2 c2 c2 t w2 BT2 BF h2' n2
  generalize b.all priceB = x0 at *
  generalize g.all priceB = x1 at *
  generalize tiersB 0 t = x2 at *
  clear BT2 BF h0' h1' h2'
  by_cases e1 : (b.length : Int) = (g.length : Int)
  case neg =>
    have hr : Hid (v = 210) := Lib.hid (by rw [← hv2.out, if_neg (by omega)])
    clear q0 q1 q2
    go_wp2_with fail
    go_ret
    exact ⟨ret_int hr.out.symm, hb2⟩
  by_cases e2 : (b.length : Int) < 1
  case pos =>
    have hr : Hid (v = 210) := Lib.hid (by rw [← hv2.out, if_neg (by omega)])
    clear q0 q1 q2
    go_wp2_with fail
    go_ret
    exact ⟨ret_int hr.out.symm, hb2⟩
  by_cases e3 : 8 < (b.length : Int)
  case pos =>
    have hr : Hid (v = 210) := Lib.hid (by rw [← hv2.out, if_neg (by omega)])
    clear q0 q1 q2
    go_wp2_with fail
    go_ret
    exact ⟨ret_int hr.out.symm, hb2⟩
  by_cases e4 : 16 < (t.length : Int)
  case pos =>
    have hr : Hid (v = 210) := Lib.hid (by rw [← hv2.out, if_neg (by omega)])
    clear q0 q1 q2
    go_wp2_with fail
    go_ret
    exact ⟨ret_int hr.out.symm, hb2⟩
  have hlen : b.length = g.length ∧ 1 ≤ b.length ∧ b.length ≤ 8 ∧ t.length ≤ 16 := by omega
  have hv3 : Hid ((if x0 = true ∧ x1 = true ∧ x2 = true then (0 : Int) else 210) = v) := Lib.hid (by rw [← hv2.out]; rw [if_pos_and hlen])
  clear hv2 hlen
  cases x0
  · have hr : Hid (v = 210) := Lib.hid (by rw [← hv3.out]; rfl)
    clear q1 q2
    go_wp2_with fail
    (with_reducible refine q0.mono ?_)
    rintro e w3 ⟨rfl, rfl⟩
    go_wp2_with fail
    go_ret
    exact ⟨ret_int hr.out.symm, hb2⟩
  cases x1
  · have hr : Hid (v = 210) := Lib.hid (by rw [← hv3.out]; rfl)
    clear q2
    go_wp2_with fail
    (with_reducible refine q0.mono ?_)
    rintro e w3 ⟨rfl, rfl⟩
    go_wp2_with fail
    (with_reducible refine q1.mono ?_)
    rintro e w3 ⟨rfl, rfl⟩
    go_wp2_with fail
    go_ret
    exact ⟨ret_int hr.out.symm, hb2⟩
  cases x2
  all_goals
    have hr := hv3.out
    simp at hr
    replace hr := Lib.hid hr
    clear hv3
    go_wp2_with fail
    (with_reducible refine q0.mono ?_)
    rintro e w3 ⟨rfl, rfl⟩
    go_wp2_with fail
    (with_reducible refine q1.mono ?_)
    rintro e w3 ⟨rfl, rfl⟩
    go_wp2_with fail
    (with_reducible refine q2.mono ?_)
    rintro e w3 ⟨rfl, b3⟩
    have hb3 := bCall hb2 b3
    go_wp2_with fail
    go_ret
    exact ⟨ret_int hr.out, hb3⟩
end Go.Proofs.YtmbopkcmbiommaaGreatDoor
