/- The reference's readLine: lines; walked (printed by gen/SqH.py). -/
import Derived.Test.YtmbopkcmbiommaaGreatDoorRbr
import Derived.Test.YtmbopkcmbiommaaGreatDoorRbs
set_option maxRecDepth 1000000
set_option maxHeartbeats 16000000
namespace Go.Proofs.YtmbopkcmbiommaaGreatDoor
open Go Go.RowKit
theorem rp_line4 (N0 : Nat) (s : WS) (x : Wld) (A : Option Addr) (c : Nat) (rest : List ByteArray) (W : World) (hk : WK W W.heap.size N0 s x) (hNW : N0 ≤ W.heap.size) (hsd : x.seed.length = 32) (hsb : ∀ d ∈ x.seed, d < 256) (hlim : x.lim 1000000) (hA : Rd W W.heap.size 1 A (rest.length + 1) (strs (⟨#[108, 105, 110, 101]⟩ :: rest))) (hcap : rest.length + 1 ≤ c) (hl : ∀ t ∈ rest, t.size ≤ 1000000) (hn : rest.length ≤ 1000000) :
    Calls Tryz.prog 32 #[.agg (s.cl x).toArray, .slice A (rest.length + 1) c] W (LineR N0 (readR x 4 (bys rest)) W) := by
  have hXs : (s.cl x).toArray.size = 43 := wsCl_size hsd
  have hX1 : ∀ v ∈ (s.cl x).toArray.toList, v.oneCell' = true := ws_cell
  have hZs : (nilWS.cl zeroW).toArray.size = 43 := wsCl_size rfl
  rw [readR_k (by decide)]
  obtain ⟨o, ho⟩ : ∃ o, Hid (rowO x 4 (numsO (bys rest)) = o) := ⟨_, Lib.hid rfl⟩
  rw [ho.out]
  obtain ⟨lb, off, rfl, hlb, hc⟩ := hA.2 (by omega)
  have c0W : W.cell? ⟨lb, off, none⟩ = some (.string ⟨#[108, 105, 110, 101]⟩) := hc 0 _ rfl
  have hAr : Rd W W.heap.size 1 (some ⟨lb, off + 1, none⟩) rest.length (strs rest) := ⟨by unfold strs; simp, fun _ => ⟨lb, off + 1, rfl, hlb, fun j u hu => by
    have := hc (j + 1) u (by unfold strs at hu ⊢; simpa using hu)
    rwa [show off + 1 + j = off + (j + 1) by omega]⟩⟩
  clear hc hA
  have BX := Blk.new W 35 (s.cl x).toArray _ rfl
  have hb := bAl (bRefl W) (.cells (s.cl x).toArray 35)
  have hw1 : (W.alloc (.cells (s.cl x).toArray 35)).heap.size = W.heap.size + 1 := by simp
  have BR := Blk.new (W.alloc (.cells (s.cl x).toArray 35)) 35 (nilWS.cl zeroW).toArray _ hw1.symm
  replace BX := BX.alloc (.cells (nilWS.cl zeroW).toArray 35)
  replace hb := bAl hb (.cells (nilWS.cl zeroW).toArray 35)
  replace hk := Lib.hid hk
  have hc1 : (s.cl x).toArray[1]? = some (.slice s.al x.lines.length s.cl_) := ws_at (k := 1) rfl
  have hset1 : Hid (∀ (g9 c9 : Nat) (y : Lin), (s.cl x).toArray.setIfInBounds 1 (.slice (some ⟨g9, 0, none⟩) (x.lines.length + 1) c9) = (WS.cl { s with al := some ⟨g9, 0, none⟩, cl_ := c9 } { x with lines := x.lines ++ [y] }).toArray) := Lib.hid (fun g9 c9 y => by
    rw [List.setIfInBounds_toArray]
    refine congrArg List.toArray ?_
    simp [WS.cl])
  obtain ⟨X, hX⟩ : ∃ X, Hid ((s.cl x).toArray = X) := ⟨_, Lib.hid rfl⟩
  rw [hX.out] at hXs hX1 BX BR hb hw1 hc1 hset1 ⊢
  go_enter Tryz.func32, Tryz.ntmps32
  go_upto_region 1 with fail
  refine (show Code.wp _ _ _ _ ((W.alloc (.cells X 35)).alloc (.cells (nilWS.cl zeroW).toArray 35)) from ?_)
  generalize (nilWS.cl zeroW).toArray = ZW at *
  generalize (W.alloc (.cells X 35)).alloc (.cells ZW 35) = w1 at *
  clear hw1
  have c0 := (hb.cell (p := ⟨lb, off, none⟩) hlb).trans c0W
  have hlb1 : lb < w1.heap.size := Nat.lt_of_lt_of_le hlb hb.size
  have q1 : Hid (Calls Tryz.prog 59 #[.slice (some ⟨lb, off + 1, none⟩) rest.length (c - 1)] w1 (NumsR (numsO (bys rest)) w1)) := Lib.hid (rp_numbers (some ⟨lb, off + 1, none⟩) (c - 1) rest w1 ((hAr.below hb).more hb.size) hl hn)
  have q0 : Hid (rest.length = 0 → Calls Tryz.prog 59 #[.slice (some ⟨lb, off, none⟩) 0 0] w1 (NumsR (numsO (bys rest)) w1)) := Lib.hid (fun h0 => by
    obtain rfl := List.length_eq_zero_iff.1 h0
    exact rp_numbers (some ⟨lb, off, none⟩) 0 [] w1 ⟨rfl, fun h => absurd h (by decide)⟩ hl hn)
  have j0 : (1 : Int) ≤ (rest.length : Int) + 1 := by omega
  have j1 : (rest.length : Int) + 1 ≤ (c : Int) := by omega
  have j2 : (0 : Int) ≤ (rest.length : Int) + 1 := by omega
  have hH1 := BR.lt
  clear hAr c0W hl
  have v1 : ((⟨#[108, 105, 110, 101]⟩ : ByteArray).toList == (⟨#[119, 111, 114, 108, 100]⟩ : ByteArray).toList) = false := str_ne (by decide)
  have v2 : ((⟨#[108, 105, 110, 101]⟩ : ByteArray).toList == (⟨#[99, 108, 97, 115, 115]⟩ : ByteArray).toList) = false := str_ne (by decide)
  have v3 : ((⟨#[108, 105, 110, 101]⟩ : ByteArray).toList == (⟨#[116, 105, 101, 114]⟩ : ByteArray).toList) = false := str_ne (by decide)
  have hnl : Hid (∀ ns, numsO (bys rest) = some ns → ns.length ≤ 1000000) := Lib.hid (fun ns h => by have := numsO_len h; unfold bys at this; rw [List.length_map] at this; omega)
  generalize numsO (bys rest) = on at *
  have hc4 : (c : Int) - 1 = ((c - 1 : Nat) : Int) := by omega
  have j3 : (rest.length : Int) + 1 - 1 = (rest.length : Int) := by omega
  go_upto_region 3 with fail
  go_cut [6, 7] from 21 to 26 (fun s6 s7 wc => NumsR on w1 (.returned (.tuple #[s6, s7])) wc)
  case first =>
    by_cases hc1 : c = 1
    · have q := (q0.out (by omega)).mono (fun _ _ h => h.shape)
      subst hc1
      go_wp2_with (go_at_call 59; (with_reducible refine q.mono ?_); rintro e w2 ⟨v, ok, rfl, h⟩)
      go_meet
      exact h
    · have q := q1.out.mono (fun _ _ h => h.shape)
      have hc5 : ¬ (c - 1 = 0) := by omega
      have hc6 : ¬ (((c - 1 : Nat) : Int) = 0) := by omega
      go_wp2_with (go_at_call 59; (with_reducible refine q.mono ?_); rintro e w2 ⟨v, ok, rfl, h⟩)
      go_meet
      exact h
  case rest =>
  clear q1 q0 hc4 j0 j1 j2 j3 hn
  cases on with
  | none =>
    have hno : Hid (o = none) := Lib.hid ho.out.symm
    obtain ⟨h6, b2⟩ := hcut
    have h6 : Ending.returned (.tuple #[u6, u7]) = .returned (.tuple #[.slice none 0 0, .bool false]) := h6
    obtain ⟨rfl, rfl⟩ : u6 = .slice none 0 0 ∧ u7 = .bool false := by simpa using h6
    go_upto_region 5 with fail
    apply wp_region_lit
    refine wpList_loadG (by rfl) (by rfl) (by rfl) (load_blk (BX.below b2 BX.lt) Tryz.underlying35 rfl (by rw [hXs]; exact world_info)) ?_
    simp only [Act.put]
    refine wpList_storeG (by rfl) (by rfl) (by rfl) (by rfl) (store_whole (BR.below b2 BR.lt) (by rw [hXs]; exact world_info) (by rw [hZs, hXs]) hX1) ?_
    simp only [Act.put]
    have b9 := below_setRowP (bCall hb b2) (Nat.le_succ W.heap.size) X
    have B9 := (BR.below b2 BR.lt).row X
    go_wp2_with fail
    exact line_leaves rfl rfl rfl hXs B9 (LineR.no hno.out b9 hXs hX1) rfl
  | some ns =>
    obtain ⟨⟨v6, h6, hv⟩, b2⟩ := hcut
    obtain ⟨rfl, rfl⟩ : u6 = v6 ∧ u7 = .bool true := by simpa using h6
    have hv : wc.ownsRow w1.heap.size 3 1 u6 ns.length (ints ns) := hv
    have ho2 : Hid ((if formR 4 ns = true then some (addR x (4, ns)) else none) = o) := ho
    have c02 := (b2.cell (p := ⟨lb, off, none⟩) hlb1).trans c0
    have hb2 := bCall hb b2
    have BX2 := BX.below b2 BX.lt
    have BR2 := BR.below b2 BR.lt
    have hH2 : W.heap.size + 1 < wc.heap.size := BR2.lt
    obtain ⟨An, cn, rfl⟩ := sl_of hv
    clear ho h6 hb BX BR c0 hlb1
    obtain ⟨N, hN⟩ : ∃ N, Hid (ns.length = N) := ⟨_, Lib.hid rfl⟩
    have hform : Hid (formR 4 ns = decide (3 ≤ N ∧ 1 ≤ nat_ ns 2 ∧ nat_ ns 2 ≤ (N : Int) ∧ (N : Int) = 2 + 2 * nat_ ns 2)) := Lib.hid (by rw [← hN.out]; rfl)
    have hnB : Hid (N ≤ 1000000) := Lib.hid (by rw [← hN.out]; exact hnl.out _ rfl)
    rw [hN.out] at hv ⊢
    by_cases h3 : N < 3
    · have i0 : (N : Int) < 3 := by omega
      have hno : Hid (o = none) := Lib.hid (ho2.out.symm.trans (if_neg (by rw [hform.out, decide_eq_true_eq]; omega)))
      clear h3
      go_upto_region 19 with fail
      apply wp_region_lit
      refine wpList_loadG (by rfl) (by rfl) (by rfl) (load_blk BX2 Tryz.underlying35 rfl (by rw [hXs]; exact world_info)) ?_
      simp only [Act.put]
      refine wpList_storeG (by rfl) (by rfl) (by rfl) (by rfl) (store_whole BR2 (by rw [hXs]; exact world_info) (by rw [hZs, hXs]) hX1) ?_
      simp only [Act.put]
      have b9 := below_setRowP hb2 (Nat.le_succ W.heap.size) X
      have B9 := BR2.row X
      go_wp2_with fail
      exact line_leaves rfl rfl rfl hXs B9 (LineR.no hno.out b9 hXs hX1) rfl
    obtain ⟨a0, a1, a2, r, hns⟩ : ∃ a0 a1 a2 r, ns = a0 :: a1 :: a2 :: r := by
      have h3' : 3 ≤ ns.length := by rw [hN.out]; omega
      match ns, h3' with
      | a0 :: a1 :: a2 :: r, _ => exact ⟨a0, a1, a2, r, rfl⟩
    have hn2 : nat_ ns 2 = a2 := by rw [hns]; rfl
    rw [hn2] at hform
    have hNr : Hid (N = r.length + 3) := Lib.hid (by rw [← hN.out, hns]; simp)
    have i0 : ¬ (N : Int) < 3 := by omega
    have i2 : (2 : Int) < (N : Int) := by omega
    have i1 : (1 : Int) < (N : Int) := by omega
    have j0 : 0 < N := by omega
    obtain ⟨g, cap, hA9⟩ := own_two hv (by omega)
    injection hA9 with hA9 _ hc9
    subst hA9; subst hc9
    obtain ⟨-, hg0, cur, BG, hNc, -, -, -⟩ := OwnAt.parts hv
    have hgl := BG.lt
    have hgH : W.heap.size + 1 < g := by omega
    have d0 : wc.cell? ⟨g, 0, none⟩ = some (.int .i64 a0) := own_cell hv (by rw [hns]; rfl)
    have d1 : wc.cell? ⟨g, 1, none⟩ = some (.int .i64 a1) := own_cell hv (by rw [hns]; rfl)
    have d2 : wc.cell? ⟨g, 2, none⟩ = some (.int .i64 a2) := own_cell hv (by rw [hns]; rfl)
    clear BG
    by_cases h1 : a2 < 1
    · have hno : Hid (o = none) := Lib.hid (ho2.out.symm.trans (if_neg (by rw [hform.out, decide_eq_true_eq]; omega)))
      clear h3 hns hn2 hv
      go_upto_region 19 with fail
      apply wp_region_lit
      refine wpList_loadG (by rfl) (by rfl) (by rfl) (load_blk BX2 Tryz.underlying35 rfl (by rw [hXs]; exact world_info)) ?_
      simp only [Act.put]
      refine wpList_storeG (by rfl) (by rfl) (by rfl) (by rfl) (store_whole BR2 (by rw [hXs]; exact world_info) (by rw [hZs, hXs]) hX1) ?_
      simp only [Act.put]
      have b9 := below_setRowP hb2 (Nat.le_succ W.heap.size) X
      have B9 := BR2.row X
      go_wp2_with fail
      exact line_leaves rfl rfl rfl hXs B9 (LineR.no hno.out b9 hXs hX1) rfl
    by_cases h2 : (N : Int) < a2
    · have hno : Hid (o = none) := Lib.hid (ho2.out.symm.trans (if_neg (by rw [hform.out, decide_eq_true_eq]; omega)))
      clear h3 hns hn2 hv
      go_upto_region 19 with fail
      apply wp_region_lit
      refine wpList_loadG (by rfl) (by rfl) (by rfl) (load_blk BX2 Tryz.underlying35 rfl (by rw [hXs]; exact world_info)) ?_
      simp only [Act.put]
      refine wpList_storeG (by rfl) (by rfl) (by rfl) (by rfl) (store_whole BR2 (by rw [hXs]; exact world_info) (by rw [hZs, hXs]) hX1) ?_
      simp only [Act.put]
      have b9 := below_setRowP hb2 (Nat.le_succ W.heap.size) X
      have B9 := BR2.row X
      go_wp2_with fail
      exact line_leaves rfl rfl rfl hXs B9 (LineR.no hno.out b9 hXs hX1) rfl
    have hNB := hnB.out
    obtain ⟨m, rfl⟩ : ∃ m : Nat, a2 = (m : Int) := ⟨a2.toNat, by omega⟩
    have k1 : IntKind.i64.wrap (2 * (m : Int)) = 2 * (m : Int) := by rw [IntKind.wrap_i64]; omega
    have k2 : IntKind.i64.wrap (3 + 2 * (m : Int)) = 3 + 2 * (m : Int) := by rw [IntKind.wrap_i64]; omega
    have k3 : IntKind.i64.wrap (3 + 2 * (m : Int) - 1) = 3 + 2 * (m : Int) - 1 := by rw [IntKind.wrap_i64]; omega
    by_cases h4 : (N : Int) = 3 + 2 * (m : Int) - 1
    case neg =>
      have hno : Hid (o = none) := Lib.hid (ho2.out.symm.trans (if_neg (by rw [hform.out, decide_eq_true_eq]; omega)))
      have e4 : ((N : Int) != 3 + 2 * (m : Int) - 1) = true := by rw [bne_iff_ne]; exact h4
      clear h3 hns hn2 hv h4 hNB
      go_upto_region 19 with fail
      apply wp_region_lit
      refine wpList_loadG (by rfl) (by rfl) (by rfl) (load_blk BX2 Tryz.underlying35 rfl (by rw [hXs]; exact world_info)) ?_
      simp only [Act.put]
      refine wpList_storeG (by rfl) (by rfl) (by rfl) (by rfl) (store_whole BR2 (by rw [hXs]; exact world_info) (by rw [hZs, hXs]) hX1) ?_
      simp only [Act.put]
      have b9 := below_setRowP hb2 (Nat.le_succ W.heap.size) X
      have B9 := BR2.row X
      go_wp2_with fail
      exact line_leaves rfl rfl rfl hXs B9 (LineR.no hno.out b9 hXs hX1) rfl
    have e4 : ((N : Int) != 3 + 2 * (m : Int) - 1) = false := by rw [bne_eq_false_iff_eq]; exact h4
    obtain ⟨offs, legs, hro, hlo, hll⟩ : ∃ offs legs, Hid (r = offs ++ legs) ∧ offs.length = m ∧ Hid (legs.length = m - 1) := ⟨r.take m, r.drop m, Lib.hid (List.take_append_drop m r).symm, by rw [List.length_take]; have := hNr.out; omega, Lib.hid (by rw [List.length_drop]; have := hNr.out; omega)⟩
    obtain ⟨la, la1, la2, -, la3⟩ := hk.out.rl
    have hyes : Hid (o = some { x with lines := x.lines ++ [⟨offs, legs, a0, a1, [], []⟩] }) := Lib.hid (ho2.out.symm.trans ((if_pos (by rw [hform.out, decide_eq_true_eq]; omega)).trans (by
      rw [hns, hro.out]
      refine congrArg some ?_
      show { x with lines := x.lines ++ [(⟨(offs ++ legs).take (m : Int).toNat, (offs ++ legs).drop (m : Int).toNat, a0, a1, [], []⟩ : Lin)] } = _
      have e : (m : Int).toNat = offs.length := by omega
      rw [e, List.take_left, List.drop_left])))
    have hv9 : Hid (wc.ownsRow w1.heap.size 3 1 (.slice (some ⟨g, 0, none⟩) N cn) N ([Value.int .i64 a0, .int .i64 a1, .int .i64 (m : Int)] ++ ints offs ++ ints legs)) := Lib.hid (by
      have := hv
      rw [hns, hro.out] at this
      have e : ints (a0 :: a1 :: (m : Int) :: (offs ++ legs)) = [Value.int .i64 a0, .int .i64 a1, .int .i64 (m : Int)] ++ ints offs ++ ints legs := by unfold ints; simp
      rw [e] at this
      exact this)
    obtain ⟨A1, hA1⟩ : ∃ A1, (if cn = 3 + m then (some (⟨g, 0, none⟩ : Addr)) else some ⟨g, 3 + m, none⟩) = A1 := ⟨_, rfl⟩
    obtain ⟨c4, hc4⟩ : ∃ c4, cn - (3 + m) = c4 := ⟨_, rfl⟩
    obtain ⟨c3, hc3⟩ : ∃ c3, cn - 3 = c3 := ⟨_, rfl⟩
    have hl4 : N - (3 + m) = legs.length := by have := hll.out; omega
    have hA1H : Hid (A1 = some ⟨g, 3 + m, none⟩ ∨ legs.length = 0) := Lib.hid (by
      rw [← hA1]
      split
      · right; omega
      · exact .inl rfl)
    have hgN : N0 ≤ g := by omega
    have hA1N : Hid (Low N0 A1 legs.length) := Lib.hid (by
      rcases hA1H.out with h | h
      · rw [h]; exact Low.of hgN
      · rw [h]; exact Low.zero)
    have hcm : Hid (m ≤ c3) := Lib.hid (by omega)
    have hc3n : ¬ cn = 3 := by omega
    have t1 : IntKind.i64.wrap (3 + (m : Int)) = 3 + (m : Int) := by rw [IntKind.wrap_i64]; omega
    have t2 : (3 + (m : Int)).toNat = 3 + m := by omega
    have t3 : (3 : Int) ≤ 3 + (m : Int) := by omega
    have t4 : 3 + (m : Int) ≤ (cn : Int) := by omega
    have t5 : 3 + (m : Int) ≤ (N : Int) := by omega
    have t6 : (N : Int) ≤ (cn : Int) := by omega
    have t7 : (0 : Int) ≤ 3 + (m : Int) := by omega
    have t8 : 3 + m - 3 = m := by omega
    clear h3 hns hn2 hv h4 hNB
    have KS : Hid (∀ w', Below wc.heap.size wc w' → w'.cell? ⟨g, 0, none⟩ = some (.int .i64 a0) ∧ w'.cell? ⟨g, 1, none⟩ = some (.int .i64 a1) ∧ w'.cell? ⟨g, 2, none⟩ = some (.int .i64 (m : Int))) := Lib.hid (fun w' bb => ⟨(bb.cell (p := ⟨g, 0, none⟩) hgl).trans d0, (bb.cell (p := ⟨g, 1, none⟩) hgl).trans d1, (bb.cell (p := ⟨g, 2, none⟩) hgl).trans d2⟩)
    go_upto_region 20 with fail
    refine wp_region_schU (fun w' => w'.cell? ⟨g, 0, none⟩ = some (.int .i64 a0) ∧ w'.cell? ⟨g, 1, none⟩ = some (.int .i64 a1) ∧ w'.cell? ⟨g, 2, none⟩ = some (.int .i64 (m : Int))) 20 1 [(0, 1), (1, 1), (2, 2), (3, 1), (4, 1), (5, 2), (6, 1), (7, 1), (8, 1), (9, 2), (10, 1), (11, 1), (12, 1), (13, 1), (14, 1), (15, 2), (16, 1), (17, 1), (18, 1), (19, 0)] (KS.out _ (bDr (bRefl wc))) ?_
    simp only [pickS, List.getElem?_cons_zero, List.getElem?_cons_succ]
    refine wpSchedU_t ?_
    refine wpSchedU_t ?_
    refine wpSchedU_r ?_
    refine wpSchedU_t ?_
    refine wpSchedU_t ?_
    refine wpSchedU_r ?_
    refine wpSchedU_t ?_
    refine wpSchedU_t ?_
    refine wpSchedU_t ?_
    refine wpSchedU_r ?_
    refine wpSchedU_t ?_
    refine wpSchedU_t ?_
    refine wpSchedU_t ?_
    refine wpSchedU_t ?_
    refine wpSchedU_t ?_
    refine wpSchedU_r ?_
    refine wpSchedU_t ?_
    refine wpSchedU_t ?_
    refine wpSchedU_t ?_
    have hE := bDr (bRefl wc)
    generalize wc.drew = wE at *
    refine wpSchedU_force (fun K hK => ?_)
    go_simp
    refine shut_go hK KS ?_
    clear hK K
    refine anyU_list [(20, 3)] ?_
    simp only [pickS, List.getElem?_cons_zero, List.getElem?_cons_succ, List.map_cons, List.map_nil]
    go_wp2_with fail
    refine NoPanic.normal ?_
    have BE := Blk.new wE 56 #[.slice (some ⟨g, 3, none⟩) m c3, .slice A1 legs.length c4, .int .i64 a0, .int .i64 a1, .slice none 0 0, .slice none 0 0] _ rfl
    replace hb2 := bAl (hb2.trans (hE.mono hb2.size)) (.cells #[.slice (some ⟨g, 3, none⟩) m c3, .slice A1 legs.length c4, .int .i64 a0, .int .i64 a1, .slice none 0 0, .slice none 0 0] 56)
    replace BX2 := (BX2.below hE BX2.lt).alloc (.cells #[.slice (some ⟨g, 3, none⟩) m c3, .slice A1 legs.length c4, .int .i64 a0, .int .i64 a1, .slice none 0 0, .slice none 0 0] 56)
    replace BR2 := (BR2.below hE BR2.lt).alloc (.cells #[.slice (some ⟨g, 3, none⟩) m c3, .slice A1 legs.length c4, .int .i64 a0, .int .i64 a1, .slice none 0 0, .slice none 0 0] 56)
    have hgE := bAl hE (.cells #[.slice (some ⟨g, 3, none⟩) m c3, .slice A1 legs.length c4, .int .i64 a0, .int .i64 a1, .slice none 0 0, .slice none 0 0] 56)
    replace hH2 := BR2.lt
    clear KS
    try dsimp only
    generalize wE.alloc (.cells #[.slice (some ⟨g, 3, none⟩) m c3, .slice A1 legs.length c4, .int .i64 a0, .int .i64 a1, .slice none 0 0, .slice none 0 0] 56) = w3 at *
    generalize wE.heap.size = eb at *
    have KS : Hid (∀ w', Below w3.heap.size w3 w' → w'.cell? ⟨W.heap.size, 1, none⟩ = some (.slice s.al x.lines.length s.cl_) ∧ w'.cell? ⟨eb, 0, none⟩ = some (.slice (some ⟨g, 3, none⟩) m c3) ∧ w'.cell? ⟨eb, 1, none⟩ = some (.slice A1 legs.length c4) ∧ w'.cell? ⟨eb, 2, none⟩ = some (.int .i64 a0) ∧ w'.cell? ⟨eb, 3, none⟩ = some (.int .i64 a1) ∧ w'.cell? ⟨eb, 4, none⟩ = some (.slice none 0 0) ∧ w'.cell? ⟨eb, 5, none⟩ = some (.slice none 0 0)) := Lib.hid (fun w' bb => ⟨((BX2.below bb BX2.lt).cell 1).trans hc1, (BE.below bb BE.lt).cell 0, (BE.below bb BE.lt).cell 1, (BE.below bb BE.lt).cell 2, (BE.below bb BE.lt).cell 3, (BE.below bb BE.lt).cell 4, (BE.below bb BE.lt).cell 5⟩)
    have r2 : ∀ w, (Instr.buildSlice 22 1 #[(0, (.agg #[.slice (some ⟨g, 3, none⟩) m c3, .slice A1 legs.length c4, .int .i64 a0, .int .i64 a1, .slice none 0 0, .slice none 0 0]))]).run Tryz.prog w = .ok (.slice (some ⟨w.heap.size, 0, none⟩) 1 1) (w.alloc (.cells ([Value.slice (some ⟨g, 3, none⟩) m c3, .slice A1 legs.length c4, .int .i64 a0, .int .i64 a1, .slice none 0 0, .slice none 0 0] : List Value).toArray 56)) := fun w => run_one (z := #[.slice none 0 0, .slice none 0 0, .int .i64 0, .int .i64 0, .slice none 0 0, .slice none 0 0]) Tryz.underlying22 line_info rfl (by omega) (by omega) w
    have onex : ∀ u ∈ [Value.slice (some ⟨g, 3, none⟩) m c3, .slice A1 legs.length c4, .int .i64 a0, .int .i64 a1, .slice none 0 0, .slice none 0 0], u.oneCell' = true := by intro u hu; simp only [List.mem_cons, List.not_mem_nil, or_false] at hu; rcases hu with rfl | rfl | rfl | rfl | rfl | rfl <;> rfl
    have oney : ∀ u ∈ linsCl la x.lines, u.oneCell' = true := lins_one
    have hlm := hlim.lines
    have g63 : x.lines.length + 1 ≤ maxLen := by unfold maxLen; omega
    have gby : (x.lines.length + 1) * 112 ≤ 140737488355328 := by omega
    go_upto_region 21 with fail
    refine wp_region_schU (fun w' => w'.cell? ⟨W.heap.size, 1, none⟩ = some (.slice s.al x.lines.length s.cl_) ∧ w'.cell? ⟨eb, 0, none⟩ = some (.slice (some ⟨g, 3, none⟩) m c3) ∧ w'.cell? ⟨eb, 1, none⟩ = some (.slice A1 legs.length c4) ∧ w'.cell? ⟨eb, 2, none⟩ = some (.int .i64 a0) ∧ w'.cell? ⟨eb, 3, none⟩ = some (.int .i64 a1) ∧ w'.cell? ⟨eb, 4, none⟩ = some (.slice none 0 0) ∧ w'.cell? ⟨eb, 5, none⟩ = some (.slice none 0 0)) 7 7 [(1, 1), (2, 1), (3, 2), (5, 2)] (KS.out _ (bDr (bRefl w3))) ?_
    simp only [pickS, List.getElem?_cons_zero, List.getElem?_cons_succ]
    refine wpSchedU_t ?_
    refine wpSchedU_t ?_
    refine wpSchedU_r ?_
    refine wpSchedU_r ?_
    have hD := bDr (bRefl w3)
    generalize w3.drew = wD at *
    refine anyU_fresh 0 4 6 7 [(7, 3), (8, 3), (9, 3), (10, 3)] 22 56 (.agg #[.slice none 0 0, .slice none 0 0, .int .i64 0, .int .i64 0, .slice none 0 0, .slice none 0 0]) 6 112 s.al x.lines.length s.cl_ W.heap.size ((linsCl la x.lines)) [Value.slice (some ⟨g, 3, none⟩) m c3, .slice A1 legs.length c4, .int .i64 a0, .int .i64 a1, .slice none 0 0, .slice none 0 0] (.agg #[.slice (some ⟨g, 3, none⟩) m c3, .slice A1 legs.length c4, .int .i64 a0, .int .i64 a1, .slice none 0 0, .slice none 0 0]) Tryz.underlying22 line_info rfl (by omega) ((la2).below (hb2.trans (hD.mono hb2.size))) (Nat.le_trans hb2.size hD.size) rfl r2 oney onex g63 gby (fun w' bb => KS.out _ (hD.trans (bb.mono hD.size))) (fun x0 x1 x2 v9 w5 hown9 hbl => ?_)
    obtain ⟨g9, c9, rfl⟩ := own_two hown9 (by omega)
    have hg9N : N0 ≤ g9 := by have h1 := (OwnAt.parts hown9).2.1; have h2 := hb2.size; have h3 := hD.size; omega
    simp only [Act.put, List.setIfInBounds_toArray, List.set_cons_zero, List.set_cons_succ]
    have hb5 := hD.trans (hbl.mono hD.size)
    have BX5 := BX2.below hb5 BX2.lt
    have BR5 := BR2.below hb5 BR2.lt
    have k4 := (BX5.cell 1).trans hc1
    have z4 := BX5.frozen 1
    clear KS r2 onex oney
    go_wp2_with fail
    refine NoPanic.normal ?_
    go_upto_region 48 with fail
    have hHD : W.heap.size + 1 < wD.heap.size := by have := hD.size; omega
    have own8 := own_far hown9 (p := ⟨W.heap.size, 1, none⟩) (by show W.heap.size < wD.heap.size; omega) (.slice (some ⟨g9, 0, none⟩) (x.lines.length + 1) c9)
    have own7 := own_far (ownsRow_keep (ownsRow_keep hv9.out hgE) hb5) (p := ⟨W.heap.size, 1, none⟩) (by show W.heap.size < w1.heap.size; omega) (.slice (some ⟨g9, 0, none⟩) (x.lines.length + 1) c9)
    have BX8 := BX5.set_ 1 (.slice (some ⟨g9, 0, none⟩) (x.lines.length + 1) c9)
    have BR8 := BR5.far (p := ⟨W.heap.size, 1, none⟩) (by simp) (.slice (some ⟨g9, 0, none⟩) (x.lines.length + 1) c9)
    have hb8 := bSet (p := ⟨W.heap.size, 1, none⟩) (hb2.trans (hb5.mono hb2.size)) (Nat.le_refl _) (.slice (some ⟨g9, 0, none⟩) (x.lines.length + 1) c9)
    generalize w5.setCell ⟨W.heap.size, 1, none⟩ (.slice (some ⟨g9, 0, none⟩) (x.lines.length + 1) c9) = w8 at *
    rw [hset1.out g9 c9 ⟨offs, legs, a0, a1, [], []⟩] at BX8
    have hYs : (WS.cl { s with al := some ⟨g9, 0, none⟩, cl_ := c9 } { x with lines := x.lines ++ [⟨offs, legs, a0, a1, [], []⟩] }).toArray.size = 43 := wsCl_size hsd
    have hY1 : ∀ v ∈ (WS.cl { s with al := some ⟨g9, 0, none⟩, cl_ := c9 } { x with lines := x.lines ++ [⟨offs, legs, a0, a1, [], []⟩] }).toArray.toList, v.oneCell' = true := ws_cell
    have hyes2 : Hid (∀ Y w', Hid ((WS.cl { s with al := some ⟨g9, 0, none⟩, cl_ := c9 } { x with lines := x.lines ++ [⟨offs, legs, a0, a1, [], []⟩] }).toArray = Y) → Below W.heap.size W w' → World.ownsRow w' wD.heap.size 56 6 (.slice (some ⟨g9, 0, none⟩) (x.lines.length + 1) c9) (x.lines.length + 1) (linsCl la x.lines ++ [Value.slice (some ⟨g, 3, none⟩) m c3, .slice A1 legs.length c4, .int .i64 a0, .int .i64 a1, .slice none 0 0, .slice none 0 0]) → World.ownsRow w' w1.heap.size 3 1 (.slice (some ⟨g, 0, none⟩) N cn) N ([Value.int .i64 a0, .int .i64 a1, .int .i64 (m : Int)] ++ ints offs ++ ints legs) → LineR N0 o W (.returned (.tuple #[.agg Y, .bool true])) w') := Lib.hid (fun Y w' hY bb hw hw2 => by
      have h := (hk.out.below bb).more bb.size
      have rd9 := rd_ownN hw
      have r0 := own_part hw2 (A := some ⟨g, 3, none⟩) (show (ints offs).length = m by unfold ints; simpa using hlo) (show _ = 3 from rfl) (.inl rfl)
      have r1 := own_part (a := [Value.int .i64 a0, .int .i64 a1, .int .i64 (m : Int)] ++ ints offs) (c := []) (by rw [List.append_nil]; exact hw2) (show (ints legs).length = legs.length by unfold ints; simp) (show _ = 3 + m by unfold ints; simp; omega) hA1H.out
      have hl : LinsN w' w'.heap.size N0 (some ⟨g9, 0, none⟩) (x.lines ++ [⟨offs, legs, a0, a1, [], []⟩]) := by
        refine lines_new (q := (⟨some ⟨g, 3, none⟩, A1, none, none, c3, c4, 0, 0⟩ : LS)) la1 ?_ (Low.of hg9N) ⟨?_, r1, Rd.nil_, Rd.nil_⟩ (by show offs.length ≤ c3; have := hcm.out; omega) ⟨Low.of hgN, hA1N.out, Low.zero, Low.zero⟩ (fun j z hz => ?_)
        · have e : LS.cl (⟨some ⟨g, 3, none⟩, A1, none, none, c3, c4, 0, 0⟩ : LS) ⟨offs, legs, a0, a1, [], []⟩ = [Value.slice (some ⟨g, 3, none⟩) m c3, .slice A1 legs.length c4, .int .i64 a0, .int .i64 a1, .slice none 0 0, .slice none 0 0] := by unfold LS.cl; simp [hlo]
          rw [e]
          exact rd9
        · show Rd w' w'.heap.size 1 (some ⟨g, 3, none⟩) offs.length (ints offs)
          rw [hlo]
          exact r0
        · obtain ⟨q', f1, f2, f3⟩ := la3 j z hz
          exact ⟨q', f1, (f2.below bb).more bb.size, f3⟩
      rw [← hY.out]
      exact LineR.yes hyes.out bb ⟨hl, h.rb, h.rg, h.rt, h.ro, h.lo, h.re, h.rs, h.rf⟩ hsd hsb)
    obtain ⟨Y, hY⟩ : ∃ Y, Hid ((WS.cl { s with al := some ⟨g9, 0, none⟩, cl_ := c9 } { x with lines := x.lines ++ [⟨offs, legs, a0, a1, [], []⟩] }).toArray = Y) := ⟨_, Lib.hid rfl⟩
    rw [hY.out] at BX8 hYs hY1
    apply wp_region_lit
    refine wpList_loadG (by rfl) (by rfl) (by rfl) (load_blk BX8 Tryz.underlying35 rfl (by rw [hYs]; exact world_info)) ?_
    simp only [Act.put]
    refine wpList_storeG (by rfl) (by rfl) (by rfl) (by rfl) (store_whole BR8 (by rw [hYs]; exact world_info) (by rw [hZs, hYs]) hY1) ?_
    simp only [Act.put]
    have b9 := below_setRowP hb8 (Nat.le_succ W.heap.size) Y
    have B9 := BR8.row Y
    have ownF := own_farRow own8 hHD Y
    have ownG := own_farRow own7 (show W.heap.size + 1 < w1.heap.size by omega) Y
    go_wp2_with fail
    exact line_leaves rfl rfl rfl hYs B9 (hyes2.out Y _ hY b9 ownF ownG) rfl
end Go.Proofs.YtmbopkcmbiommaaGreatDoor
