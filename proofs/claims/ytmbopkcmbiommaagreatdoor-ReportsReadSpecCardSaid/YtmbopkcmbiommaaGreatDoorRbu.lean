/- The reference's readLine: classes; walked (printed by gen/SqH.py). -/
import Derived.Test.YtmbopkcmbiommaaGreatDoorRbp
set_option maxRecDepth 1000000
set_option maxHeartbeats 16000000
namespace Go.Proofs.YtmbopkcmbiommaaGreatDoor
open Go Go.RowKit
theorem rp_line2 (N0 : Nat) (s : WS) (x : Wld) (A : Option Addr) (c : Nat) (rest : List ByteArray) (W : World) (hk : WK W W.heap.size N0 s x) (hNW : N0 ≤ W.heap.size) (hsd : x.seed.length = 32) (hsb : ∀ d ∈ x.seed, d < 256) (hlim : x.lim 1000000) (hA : Rd W W.heap.size 1 A (rest.length + 1) (strs (⟨#[99, 108, 97, 115, 115]⟩ :: rest))) (hcap : rest.length + 1 ≤ c) (hl : ∀ t ∈ rest, t.size ≤ 1000000) (hn : rest.length ≤ 1000000) :
    Calls Tryz.prog 32 #[.agg (s.cl x).toArray, .slice A (rest.length + 1) c] W (LineR N0 (readR x 2 (bys rest)) W) := by
  have hXs : (s.cl x).toArray.size = 43 := wsCl_size hsd
  have hX1 : ∀ v ∈ (s.cl x).toArray.toList, v.oneCell' = true := ws_cell
  have hZs : (nilWS.cl zeroW).toArray.size = 43 := wsCl_size rfl
  rw [readR_k (by decide)]
  obtain ⟨o, ho⟩ : ∃ o, Hid (rowO x 2 (numsO (bys rest)) = o) := ⟨_, Lib.hid rfl⟩
  rw [ho.out]
  obtain ⟨lb, off, rfl, hlb, hc⟩ := hA.2 (by omega)
  have c0W : W.cell? ⟨lb, off, none⟩ = some (.string ⟨#[99, 108, 97, 115, 115]⟩) := hc 0 _ rfl
  have hAr : Rd W W.heap.size 1 (some ⟨lb, off + 1, none⟩) rest.length (strs rest) := ⟨by unfold strs; simp, fun _ => ⟨lb, off + 1, rfl, hlb, fun j u hu => by
    have := hc (j + 1) u (by unfold strs at hu ⊢; simpa using hu)
    rwa [show off + 1 + j = off + (j + 1) by omega]⟩⟩
  clear hc hA
  have BX := Blk.new W 35 (s.cl x).toArray _ rfl
  have hb := bAl (bRefl W) (.cells (s.cl x).toArray 35)
  have hw1 : (W.alloc (.cells (s.cl x).toArray 35)).heap.size = W.heap.size + 1 := by simp
  have BR := Blk.new (W.alloc (.cells (s.cl x).toArray 35)) 35 (nilWS.cl zeroW).toArray _ hw1.symm
  replace BX := BX.alloc (.cells (nilWS.cl zeroW).toArray 35)
  replace hb := bAl hb (.cells (nilWS.cl zeroW).toArray 35)
  replace hk := Lib.hid hk
  have hc2 : (s.cl x).toArray[2]? = some (.slice s.ab x.base.length s.cb) := ws_at (k := 2) rfl
  have hc3 : (s.cl x).toArray[3]? = some (.slice s.ag x.leg.length s.cg) := ws_at (k := 3) rfl
  have hset2 : Hid (∀ (g8 c8 g9 c9 : Nat) (a0 a1 : Int), ((s.cl x).toArray.setIfInBounds 2 (.slice (some ⟨g8, 0, none⟩) (x.base.length + 1) c8)).setIfInBounds 3 (.slice (some ⟨g9, 0, none⟩) (x.leg.length + 1) c9) = (WS.cl { s with ab := some ⟨g8, 0, none⟩, cb := c8, ag := some ⟨g9, 0, none⟩, cg := c9 } (addR x (2, [a0, a1]))).toArray) := Lib.hid (fun g8 c8 g9 c9 a0 a1 => by
    rw [List.setIfInBounds_toArray, List.setIfInBounds_toArray]
    refine congrArg List.toArray ?_
    simp [WS.cl, addR])
  obtain ⟨X, hX⟩ : ∃ X, Hid ((s.cl x).toArray = X) := ⟨_, Lib.hid rfl⟩
  rw [hX.out] at hXs hX1 BX BR hb hw1 hc2 hc3 hset2 ⊢
  go_enter Tryz.func32, Tryz.ntmps32
  go_upto_region 1 with fail
  refine (show Code.wp _ _ _ _ ((W.alloc (.cells X 35)).alloc (.cells (nilWS.cl zeroW).toArray 35)) from ?_)
  generalize (nilWS.cl zeroW).toArray = ZW at *
  generalize (W.alloc (.cells X 35)).alloc (.cells ZW 35) = w1 at *
  clear hw1
  have c0 := (hb.cell (p := ⟨lb, off, none⟩) hlb).trans c0W
  have hlb1 : lb < w1.heap.size := Nat.lt_of_lt_of_le hlb hb.size
  have q1 : Hid (Calls Tryz.prog 59 #[.slice (some ⟨lb, off + 1, none⟩) rest.length (c - 1)] w1 (NumsR (numsO (bys rest)) w1)) := Lib.hid (rp_numbers (some ⟨lb, off + 1, none⟩) (c - 1) rest w1 ((hAr.below hb).more hb.size) hl hn)
  have q0 : Hid (rest.length = 0 → Calls Tryz.prog 59 #[.slice (some ⟨lb, off, none⟩) 0 0] w1 (NumsR (numsO (bys rest)) w1)) := Lib.hid (fun h0 => by
    obtain rfl := List.length_eq_zero_iff.1 h0
    exact rp_numbers (some ⟨lb, off, none⟩) 0 [] w1 ⟨rfl, fun h => absurd h (by decide)⟩ hl hn)
  have j0 : (1 : Int) ≤ (rest.length : Int) + 1 := by omega
  have j1 : (rest.length : Int) + 1 ≤ (c : Int) := by omega
  have j2 : (0 : Int) ≤ (rest.length : Int) + 1 := by omega
  have hH1 := BR.lt
  clear hAr c0W hl
  have v1 : ((⟨#[99, 108, 97, 115, 115]⟩ : ByteArray).toList == (⟨#[119, 111, 114, 108, 100]⟩ : ByteArray).toList) = false := str_ne (by decide)
  have hnl : Hid (∀ ns, numsO (bys rest) = some ns → ns.length ≤ 1000000) := Lib.hid (fun ns h => by have := numsO_len h; unfold bys at this; rw [List.length_map] at this; omega)
  generalize numsO (bys rest) = on at *
  have hc4 : (c : Int) - 1 = ((c - 1 : Nat) : Int) := by omega
  have j3 : (rest.length : Int) + 1 - 1 = (rest.length : Int) := by omega
  go_upto_region 3 with fail
  go_cut [6, 7] from 21 to 26 (fun s6 s7 wc => NumsR on w1 (.returned (.tuple #[s6, s7])) wc)
  case first =>
    by_cases hc1 : c = 1
    · have q := (q0.out (by omega)).mono (fun _ _ h => h.shape)
      subst hc1
      go_wp2_with (go_at_call 59; (with_reducible refine q.mono ?_); rintro e w2 ⟨v, ok, rfl, h⟩)
      go_meet
      exact h
    · have q := q1.out.mono (fun _ _ h => h.shape)
      have hc5 : ¬ (c - 1 = 0) := by omega
      have hc6 : ¬ (((c - 1 : Nat) : Int) = 0) := by omega
      go_wp2_with (go_at_call 59; (with_reducible refine q.mono ?_); rintro e w2 ⟨v, ok, rfl, h⟩)
      go_meet
      exact h
  case rest =>
  clear q1 q0 hc4 j0 j1 j2 j3 hn
  cases on with
  | none =>
    have hno : Hid (o = none) := Lib.hid ho.out.symm
    obtain ⟨h6, b2⟩ := hcut
    have h6 : Ending.returned (.tuple #[u6, u7]) = .returned (.tuple #[.slice none 0 0, .bool false]) := h6
    obtain ⟨rfl, rfl⟩ : u6 = .slice none 0 0 ∧ u7 = .bool false := by simpa using h6
    go_upto_region 5 with fail
    apply wp_region_lit
    refine wpList_loadG (by rfl) (by rfl) (by rfl) (load_blk (BX.below b2 BX.lt) Tryz.underlying35 rfl (by rw [hXs]; exact world_info)) ?_
    simp only [Act.put]
    refine wpList_storeG (by rfl) (by rfl) (by rfl) (by rfl) (store_whole (BR.below b2 BR.lt) (by rw [hXs]; exact world_info) (by rw [hZs, hXs]) hX1) ?_
    simp only [Act.put]
    have b9 := below_setRowP (bCall hb b2) (Nat.le_succ W.heap.size) X
    have B9 := (BR.below b2 BR.lt).row X
    go_wp2_with fail
    exact line_leaves rfl rfl rfl hXs B9 (LineR.no hno.out b9 hXs hX1) rfl
  | some ns =>
    obtain ⟨⟨v6, h6, hv⟩, b2⟩ := hcut
    obtain ⟨rfl, rfl⟩ : u6 = v6 ∧ u7 = .bool true := by simpa using h6
    have hv : wc.ownsRow w1.heap.size 3 1 u6 ns.length (ints ns) := hv
    have ho2 : Hid ((if formR 2 ns = true then some (addR x (2, ns)) else none) = o) := ho
    have c02 := (b2.cell (p := ⟨lb, off, none⟩) hlb1).trans c0
    have hb2 := bCall hb b2
    have BX2 := BX.below b2 BX.lt
    have BR2 := BR.below b2 BR.lt
    have hH2 : W.heap.size + 1 < wc.heap.size := BR2.lt
    obtain ⟨An, cn, rfl⟩ := sl_of hv
    clear ho h6 hb BX BR c0 hlb1
    by_cases hN : ns.length = 2
    case neg =>
      have g1 : ((ns.length : Int) != 2) = true := by rw [bne_iff_ne]; omega
      have hno : Hid (o = none) := Lib.hid (ho2.out.symm.trans (if_neg (by show ¬ decide (ns.length = 2) = true; simp [hN])))
      go_upto_region 10 with fail
      apply wp_region_lit
      refine wpList_loadG (by rfl) (by rfl) (by rfl) (load_blk BX2 Tryz.underlying35 rfl (by rw [hXs]; exact world_info)) ?_
      simp only [Act.put]
      refine wpList_storeG (by rfl) (by rfl) (by rfl) (by rfl) (store_whole BR2 (by rw [hXs]; exact world_info) (by rw [hZs, hXs]) hX1) ?_
      simp only [Act.put]
      have b9 := below_setRowP hb2 (Nat.le_succ W.heap.size) X
      have B9 := BR2.row X
      go_wp2_with fail
      exact line_leaves rfl rfl rfl hXs B9 (LineR.no hno.out b9 hXs hX1) rfl
    match ns, hN with
    | [a0, a1], _ =>
    have hyes : Hid (o = some (addR x (2, [a0, a1]))) := Lib.hid (ho2.out.symm.trans (if_pos rfl))
    have hv : wc.ownsRow w1.heap.size 3 1 (.slice An 2 cn) 2 (ints [a0, a1]) := hv
    obtain ⟨g, cap, hA9⟩ := own_two hv (by decide)
    injection hA9 with hA9 _ hc9
    subst hA9; subst hc9
    obtain ⟨-, hg0, cur, BG, -, -, -, -⟩ := OwnAt.parts hv
    have d0 : wc.cell? ⟨g, 0, none⟩ = some (.int .i64 a0) := own_cell hv rfl
    have d1 : wc.cell? ⟨g, 1, none⟩ = some (.int .i64 a1) := own_cell hv rfl
    have dc1 : cur[1]? = some (.int .i64 a1) := by rw [← BG.cell]; exact d1
    have hgl := BG.lt
    clear ho2 hv
    have KS : Hid (∀ w', Below wc.heap.size wc w' → w'.cell? ⟨W.heap.size, 2, none⟩ = some (.slice s.ab x.base.length s.cb) ∧ w'.cell? ⟨g, 0, none⟩ = some (.int .i64 a0)) := Lib.hid (fun w' bb => ⟨((BX2.below bb BX2.lt).cell 2).trans hc2, (bb.cell (p := ⟨g, 0, none⟩) hgl).trans d0⟩)
    have r2 := run_oneI a0
    have onex := one_int (n := a0)
    have oney : ∀ u ∈ ints x.base, u.oneCell' = true := ints_cells
    have hlm := hlim.base
    have g63 : x.base.length + 1 ≤ maxLen := by unfold maxLen; omega
    have gby : (x.base.length + 1) * 8 ≤ 140737488355328 := by omega
    go_upto_region 11 with fail
    refine wp_region_schU (fun w' => w'.cell? ⟨W.heap.size, 2, none⟩ = some (.slice s.ab x.base.length s.cb) ∧ w'.cell? ⟨g, 0, none⟩ = some (.int .i64 a0)) 9 7 [(1, 1), (2, 1), (3, 2), (5, 1), (6, 1), (7, 2)] (KS.out _ (bDr (bRefl wc))) ?_
    simp only [pickS, List.getElem?_cons_zero, List.getElem?_cons_succ]
    refine wpSchedU_t ?_
    refine wpSchedU_t ?_
    refine wpSchedU_r ?_
    refine wpSchedU_t ?_
    refine wpSchedU_t ?_
    refine wpSchedU_r ?_
    have hD := bDr (bRefl wc)
    generalize wc.drew = wD at *
    refine anyU_fresh 0 4 8 9 [(9, 3), (10, 3), (11, 3), (12, 3)] 25 3 (.int .i64 0) 1 8 s.ab x.base.length s.cb W.heap.size (ints x.base) [Value.int .i64 a0] (.int .i64 a0) Tryz.underlying25 int_info rfl (by omega) ((hk.out.rb.1).below (hb2.trans (hD.mono hb2.size))) (Nat.le_trans hb2.size hD.size) rfl r2 oney onex g63 gby (fun w' bb => KS.out _ (hD.trans (bb.mono hD.size))) (fun x0 x1 x2 v9 w5 hown9 hbl => ?_)
    obtain ⟨g9, c9, rfl⟩ := own_two hown9 (by omega)
    have hg9N : N0 ≤ g9 := by have h1 := (OwnAt.parts hown9).2.1; have h2 := hb2.size; have h3 := hD.size; omega
    simp only [Act.put, List.setIfInBounds_toArray, List.set_cons_zero, List.set_cons_succ]
    have hb5 := hD.trans (hbl.mono hD.size)
    have BX5 := BX2.below hb5 BX2.lt
    have BR5 := BR2.below hb5 BR2.lt
    have k4 := (BX5.cell 2).trans hc2
    have z4 := BX5.frozen 2
    clear KS r2 onex oney
    go_wp2_with fail
    refine NoPanic.normal ?_
    go_upto_region 12 with fail
    have hHD : W.heap.size + 1 < wD.heap.size := by have := hD.size; omega
    have own8 := own_far hown9 (p := ⟨W.heap.size, 2, none⟩) (by show W.heap.size < wD.heap.size; omega) (.slice (some ⟨g9, 0, none⟩) (x.base.length + 1) c9)
    replace BX2 := BX5.set_ 2 (.slice (some ⟨g9, 0, none⟩) (x.base.length + 1) c9)
    replace BR2 := BR5.far (p := ⟨W.heap.size, 2, none⟩) (by simp) (.slice (some ⟨g9, 0, none⟩) (x.base.length + 1) c9)
    have hb8 := bSet (p := ⟨W.heap.size, 2, none⟩) (hb2.trans (hb5.mono hb2.size)) (Nat.le_refl _) (.slice (some ⟨g9, 0, none⟩) (x.base.length + 1) c9)
    have BG8 := (BG.below hb5 BG.lt).far (p := ⟨W.heap.size, 2, none⟩) (by show g ≠ W.heap.size; omega) (.slice (some ⟨g9, 0, none⟩) (x.base.length + 1) c9)
    generalize w5.setCell ⟨W.heap.size, 2, none⟩ (.slice (some ⟨g9, 0, none⟩) (x.base.length + 1) c9) = w8 at *
    have hc3 : (X.setIfInBounds 2 (.slice (some ⟨g9, 0, none⟩) (x.base.length + 1) c9))[3]? = some (.slice s.ag x.leg.length s.cg) := by rw [Array.getElem?_setIfInBounds_ne (by decide)]; exact hc3
    have d1 := (BG8.cell 1).trans dc1
    have hgl := BG8.lt
    obtain ⟨g8, hg8⟩ : ∃ g8, g8 = g9 := ⟨_, rfl⟩
    obtain ⟨c8, hc8⟩ : ∃ c8, c8 = c9 := ⟨_, rfl⟩
    rw [← hg8, ← hc8] at own8 BX2 hc3
    generalize wD.heap.size = N1 at *
    have hg8N : N0 ≤ g8 := by omega
    clear hb2 hg8 hc8 hg9N k4 z4 BX5 BR5 hb5 hbl hown9 BG BG8 d0 hg0
    have hb2 := hb8
    clear hb8 hlm g63 gby
    have KS : Hid (∀ w', Below w8.heap.size w8 w' → w'.cell? ⟨W.heap.size, 3, none⟩ = some (.slice s.ag x.leg.length s.cg) ∧ w'.cell? ⟨g, 1, none⟩ = some (.int .i64 a1)) := Lib.hid (fun w' bb => ⟨((BX2.below bb BX2.lt).cell 3).trans hc3, (bb.cell (p := ⟨g, 1, none⟩) hgl).trans d1⟩)
    have r2 := run_oneI a1
    have onex := one_int (n := a1)
    have oney : ∀ u ∈ ints x.leg, u.oneCell' = true := ints_cells
    have hlm := hlim.leg
    have g63 : x.leg.length + 1 ≤ maxLen := by unfold maxLen; omega
    have gby : (x.leg.length + 1) * 8 ≤ 140737488355328 := by omega
    go_upto_region 12 with fail
    refine wp_region_schU (fun w' => w'.cell? ⟨W.heap.size, 3, none⟩ = some (.slice s.ag x.leg.length s.cg) ∧ w'.cell? ⟨g, 1, none⟩ = some (.int .i64 a1)) 9 7 [(1, 1), (2, 1), (3, 2), (5, 1), (6, 1), (7, 2)] (KS.out _ (bDr (bRefl w8))) ?_
    simp only [pickS, List.getElem?_cons_zero, List.getElem?_cons_succ]
    refine wpSchedU_t ?_
    refine wpSchedU_t ?_
    refine wpSchedU_r ?_
    refine wpSchedU_t ?_
    refine wpSchedU_t ?_
    refine wpSchedU_r ?_
    have hD := bDr (bRefl w8)
    generalize w8.drew = wD at *
    refine anyU_fresh 0 4 8 9 [(9, 3), (10, 3), (11, 3), (12, 3)] 25 3 (.int .i64 0) 1 8 s.ag x.leg.length s.cg W.heap.size (ints x.leg) [Value.int .i64 a1] (.int .i64 a1) Tryz.underlying25 int_info rfl (by omega) ((hk.out.rg.1).below (hb2.trans (hD.mono hb2.size))) (Nat.le_trans hb2.size hD.size) rfl r2 oney onex g63 gby (fun w' bb => KS.out _ (hD.trans (bb.mono hD.size))) (fun x0 x1 x2 v9 w5 hown9 hbl => ?_)
    obtain ⟨g9, c9, rfl⟩ := own_two hown9 (by omega)
    have hg9N : N0 ≤ g9 := by have h1 := (OwnAt.parts hown9).2.1; have h2 := hb2.size; have h3 := hD.size; omega
    simp only [Act.put, List.setIfInBounds_toArray, List.set_cons_zero, List.set_cons_succ]
    have hb5 := hD.trans (hbl.mono hD.size)
    have BX5 := BX2.below hb5 BX2.lt
    have BR5 := BR2.below hb5 BR2.lt
    have k4 := (BX5.cell 3).trans hc3
    have z4 := BX5.frozen 3
    clear KS r2 onex oney
    go_wp2_with fail
    refine NoPanic.normal ?_
    go_upto_region 48 with fail
    have hHD3 : W.heap.size + 1 < wD.heap.size := by have := hD.size; have := BR2.lt; omega
    have own7 := own_far (ownsRow_keep own8 hb5) (p := ⟨W.heap.size, 3, none⟩) (by show W.heap.size < N1; omega) (.slice (some ⟨g9, 0, none⟩) (x.leg.length + 1) c9)
    have own9 := own_far hown9 (p := ⟨W.heap.size, 3, none⟩) (by show W.heap.size < wD.heap.size; omega) (.slice (some ⟨g9, 0, none⟩) (x.leg.length + 1) c9)
    have BX8 := BX5.set_ 3 (.slice (some ⟨g9, 0, none⟩) (x.leg.length + 1) c9)
    have BR8 := BR5.far (p := ⟨W.heap.size, 3, none⟩) (by simp) (.slice (some ⟨g9, 0, none⟩) (x.leg.length + 1) c9)
    have hb8 := bSet (p := ⟨W.heap.size, 3, none⟩) (hb2.trans (hb5.mono hb2.size)) (Nat.le_refl _) (.slice (some ⟨g9, 0, none⟩) (x.leg.length + 1) c9)
    generalize w5.setCell ⟨W.heap.size, 3, none⟩ (.slice (some ⟨g9, 0, none⟩) (x.leg.length + 1) c9) = w9 at *
    rw [hset2.out g8 c8 g9 c9 a0 a1] at BX8
    have hYs : (WS.cl { s with ab := some ⟨g8, 0, none⟩, cb := c8, ag := some ⟨g9, 0, none⟩, cg := c9 } (addR x (2, [a0, a1]))).toArray.size = 43 := wsCl_size hsd
    have hY1 : ∀ v ∈ (WS.cl { s with ab := some ⟨g8, 0, none⟩, cb := c8, ag := some ⟨g9, 0, none⟩, cg := c9 } (addR x (2, [a0, a1]))).toArray.toList, v.oneCell' = true := ws_cell
    have hyes2 : Hid (∀ Y w', Hid ((WS.cl { s with ab := some ⟨g8, 0, none⟩, cb := c8, ag := some ⟨g9, 0, none⟩, cg := c9 } (addR x (2, [a0, a1]))).toArray = Y) → Below W.heap.size W w' → World.ownsRow w' N1 3 1 (.slice (some ⟨g8, 0, none⟩) (x.base.length + 1) c8) (x.base.length + 1) (ints x.base ++ [.int .i64 a0]) → World.ownsRow w' wD.heap.size 3 1 (.slice (some ⟨g9, 0, none⟩) (x.leg.length + 1) c9) (x.leg.length + 1) (ints x.leg ++ [.int .i64 a1]) → LineR N0 o W (.returned (.tuple #[.agg Y, .bool true])) w') := Lib.hid (fun Y w' hY bb hw hw2 => by
      have h := (hk.out.below bb).more bb.size
      have rd8 := rd_ownN hw
      have rd9 := rd_ownN hw2
      rw [← hY.out]
      exact LineR.yes hyes.out bb ⟨h.rl, ⟨(by show Rd _ _ 1 _ (x.base ++ [_]).length (ints (x.base ++ [_])); rw [List.length_append]; unfold ints; rw [List.map_append]; exact rd8), Low.of hg8N⟩, ⟨(by show Rd _ _ 1 _ (x.leg ++ [_]).length (ints (x.leg ++ [_])); rw [List.length_append]; unfold ints; rw [List.map_append]; exact rd9), Low.of hg9N⟩, h.rt, h.ro, h.lo, h.re, h.rs, h.rf⟩ hsd hsb)
    obtain ⟨Y, hY⟩ : ∃ Y, Hid ((WS.cl { s with ab := some ⟨g8, 0, none⟩, cb := c8, ag := some ⟨g9, 0, none⟩, cg := c9 } (addR x (2, [a0, a1]))).toArray = Y) := ⟨_, Lib.hid rfl⟩
    rw [hY.out] at BX8 hYs hY1
    apply wp_region_lit
    refine wpList_loadG (by rfl) (by rfl) (by rfl) (load_blk BX8 Tryz.underlying35 rfl (by rw [hYs]; exact world_info)) ?_
    simp only [Act.put]
    refine wpList_storeG (by rfl) (by rfl) (by rfl) (by rfl) (store_whole BR8 (by rw [hYs]; exact world_info) (by rw [hZs, hYs]) hY1) ?_
    simp only [Act.put]
    have b9 := below_setRowP hb8 (Nat.le_succ W.heap.size) Y
    have B9 := BR8.row Y
    have ownF := own_farRow own7 (show W.heap.size + 1 < N1 by omega) Y
    have ownG := own_farRow own9 hHD3 Y
    go_wp2_with fail
    exact line_leaves rfl rfl rfl hYs B9 (hyes2.out Y _ hY b9 ownF ownG) rfl
end Go.Proofs.YtmbopkcmbiommaaGreatDoor
