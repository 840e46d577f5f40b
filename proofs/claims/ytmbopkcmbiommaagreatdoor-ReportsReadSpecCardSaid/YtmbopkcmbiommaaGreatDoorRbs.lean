/- The reference's readLine: rules, gaps; walked (printed by gen/SqH.py). -/
import Derived.Test.YtmbopkcmbiommaaGreatDoorRbp
set_option maxRecDepth 1000000
set_option maxHeartbeats 16000000
namespace Go.Proofs.YtmbopkcmbiommaaGreatDoor
open Go Go.RowKit
theorem keepB_end {B N H : Nat} {w : World} {u v : Value} {Y : Array Value} (h1 : B ≤ H) (h2 : H + 1 < N) : KeepB B N w (((w.setCell ⟨H, 0, none⟩ u).setCell ⟨H, 1, none⟩ v).setRow (H + 1) Y) := by
  refine ⟨by simp [World.setRow, World.setCell], fun g hg h => ?_⟩
  have a1 : g ≠ H := by omega
  have a2 : g ≠ H + 1 := by omega
  rw [setRow_other _ _ _ _ a2, Below.heap_setCell _ _ _ _ (by show g ≠ H; omega), Below.heap_setCell _ _ _ _ (by show g ≠ H; omega)]
theorem rp_line5 (N0 : Nat) (s : WS) (x : Wld) (A : Option Addr) (c : Nat) (rest : List ByteArray) (W : World) (hk : WK W W.heap.size N0 s x) (hNW : N0 ≤ W.heap.size) (hsd : x.seed.length = 32) (hsb : ∀ d ∈ x.seed, d < 256) (hlim : x.lim 1000000) (hA : Rd W W.heap.size 1 A (rest.length + 1) (strs (⟨#[114, 117, 108, 101]⟩ :: rest))) (hcap : rest.length + 1 ≤ c) (hl : ∀ t ∈ rest, t.size ≤ 1000000) (hn : rest.length ≤ 1000000) (hne : x.lines ≠ []) :
    Calls Tryz.prog 32 #[.agg (s.cl x).toArray, .slice A (rest.length + 1) c] W (LineR N0 (readR x 5 (bys rest)) W) := by
  have hXs : (s.cl x).toArray.size = 43 := wsCl_size hsd
  have hX1 : ∀ v ∈ (s.cl x).toArray.toList, v.oneCell' = true := ws_cell
  have hZs : (nilWS.cl zeroW).toArray.size = 43 := wsCl_size rfl
  rw [readR_k (by decide)]
  obtain ⟨o, ho⟩ : ∃ o, Hid (rowO x 5 (numsO (bys rest)) = o) := ⟨_, Lib.hid rfl⟩
  rw [ho.out]
  obtain ⟨lb, off, rfl, hlb, hc⟩ := hA.2 (by omega)
  have c0W : W.cell? ⟨lb, off, none⟩ = some (.string ⟨#[114, 117, 108, 101]⟩) := hc 0 _ rfl
  have hAr : Rd W W.heap.size 1 (some ⟨lb, off + 1, none⟩) rest.length (strs rest) := ⟨by unfold strs; simp, fun _ => ⟨lb, off + 1, rfl, hlb, fun j u hu => by
    have := hc (j + 1) u (by unfold strs at hu ⊢; simpa using hu)
    rwa [show off + 1 + j = off + (j + 1) by omega]⟩⟩
  clear hc hA
  have BX := Blk.new W 35 (s.cl x).toArray _ rfl
  have hb := bAl (bRefl W) (.cells (s.cl x).toArray 35)
  have hw1 : (W.alloc (.cells (s.cl x).toArray 35)).heap.size = W.heap.size + 1 := by simp
  have BR := Blk.new (W.alloc (.cells (s.cl x).toArray 35)) 35 (nilWS.cl zeroW).toArray _ hw1.symm
  replace BX := BX.alloc (.cells (nilWS.cl zeroW).toArray 35)
  replace hb := bAl hb (.cells (nilWS.cl zeroW).toArray 35)
  replace hk := Lib.hid hk
  have hz0 : (s.cl x).toArray[0]? = some (.int .i64 x.offs) := ws_at (k := 0) rfl
  have hz1 : (s.cl x).toArray[1]? = some (.slice s.al x.lines.length s.cl_) := ws_at (k := 1) rfl
  have hset1 : Hid (∀ (g9 c9 : Nat) (LL : List Lin), ((s.cl x).toArray.setIfInBounds 0 (.int .i64 x.offs)).setIfInBounds 1 (.slice (some ⟨g9, 0, none⟩) LL.length c9) = (WS.cl { s with al := some ⟨g9, 0, none⟩, cl_ := c9 } { x with lines := LL }).toArray) := Lib.hid (fun g9 c9 LL => by
    rw [List.setIfInBounds_toArray, List.setIfInBounds_toArray]
    refine congrArg List.toArray ?_
    simp [WS.cl])
  obtain ⟨X, hX⟩ : ∃ X, Hid ((s.cl x).toArray = X) := ⟨_, Lib.hid rfl⟩
  rw [hX.out] at hXs hX1 BX BR hb hw1 hz0 hz1 hset1 ⊢
  go_enter Tryz.func32, Tryz.ntmps32
  go_upto_region 1 with fail
  refine (show Code.wp _ _ _ _ ((W.alloc (.cells X 35)).alloc (.cells (nilWS.cl zeroW).toArray 35)) from ?_)
  generalize (nilWS.cl zeroW).toArray = ZW at *
  generalize (W.alloc (.cells X 35)).alloc (.cells ZW 35) = w1 at *
  clear hw1
  have c0 := (hb.cell (p := ⟨lb, off, none⟩) hlb).trans c0W
  have hlb1 : lb < w1.heap.size := Nat.lt_of_lt_of_le hlb hb.size
  have q1 : Hid (Calls Tryz.prog 59 #[.slice (some ⟨lb, off + 1, none⟩) rest.length (c - 1)] w1 (NumsR (numsO (bys rest)) w1)) := Lib.hid (rp_numbers (some ⟨lb, off + 1, none⟩) (c - 1) rest w1 ((hAr.below hb).more hb.size) hl hn)
  have q0 : Hid (rest.length = 0 → Calls Tryz.prog 59 #[.slice (some ⟨lb, off, none⟩) 0 0] w1 (NumsR (numsO (bys rest)) w1)) := Lib.hid (fun h0 => by
    obtain rfl := List.length_eq_zero_iff.1 h0
    exact rp_numbers (some ⟨lb, off, none⟩) 0 [] w1 ⟨rfl, fun h => absurd h (by decide)⟩ hl hn)
  have j0 : (1 : Int) ≤ (rest.length : Int) + 1 := by omega
  have j1 : (rest.length : Int) + 1 ≤ (c : Int) := by omega
  have j2 : (0 : Int) ≤ (rest.length : Int) + 1 := by omega
  have hH1 := BR.lt
  clear hAr c0W hl
  have v1 : ((⟨#[114, 117, 108, 101]⟩ : ByteArray).toList == (⟨#[119, 111, 114, 108, 100]⟩ : ByteArray).toList) = false := str_ne (by decide)
  have v2 : ((⟨#[114, 117, 108, 101]⟩ : ByteArray).toList == (⟨#[99, 108, 97, 115, 115]⟩ : ByteArray).toList) = false := str_ne (by decide)
  have v3 : ((⟨#[114, 117, 108, 101]⟩ : ByteArray).toList == (⟨#[116, 105, 101, 114]⟩ : ByteArray).toList) = false := str_ne (by decide)
  have v4 : ((⟨#[114, 117, 108, 101]⟩ : ByteArray).toList == (⟨#[108, 105, 110, 101]⟩ : ByteArray).toList) = false := str_ne (by decide)
  have hnl : Hid (∀ ns, numsO (bys rest) = some ns → ns.length ≤ 1000000) := Lib.hid (fun ns h => by have := numsO_len h; unfold bys at this; rw [List.length_map] at this; omega)
  generalize numsO (bys rest) = on at *
  have hc4 : (c : Int) - 1 = ((c - 1 : Nat) : Int) := by omega
  have j3 : (rest.length : Int) + 1 - 1 = (rest.length : Int) := by omega
  go_upto_region 3 with fail
  go_cut [6, 7] from 21 to 26 (fun s6 s7 wc => NumsR on w1 (.returned (.tuple #[s6, s7])) wc)
  case first =>
    by_cases hc1 : c = 1
    · have q := (q0.out (by omega)).mono (fun _ _ h => h.shape)
      subst hc1
      go_wp2_with (go_at_call 59; (with_reducible refine q.mono ?_); rintro e w2 ⟨v, ok, rfl, h⟩)
      go_meet
      exact h
    · have q := q1.out.mono (fun _ _ h => h.shape)
      have hc5 : ¬ (c - 1 = 0) := by omega
      have hc6 : ¬ (((c - 1 : Nat) : Int) = 0) := by omega
      go_wp2_with (go_at_call 59; (with_reducible refine q.mono ?_); rintro e w2 ⟨v, ok, rfl, h⟩)
      go_meet
      exact h
  case rest =>
  clear q1 q0 hc4 j0 j1 j2 j3 hn
  cases on with
  | none =>
    have hno : Hid (o = none) := Lib.hid ho.out.symm
    obtain ⟨h6, b2⟩ := hcut
    have h6 : Ending.returned (.tuple #[u6, u7]) = .returned (.tuple #[.slice none 0 0, .bool false]) := h6
    obtain ⟨rfl, rfl⟩ : u6 = .slice none 0 0 ∧ u7 = .bool false := by simpa using h6
    go_upto_region 5 with fail
    apply wp_region_lit
    refine wpList_loadG (by rfl) (by rfl) (by rfl) (load_blk (BX.below b2 BX.lt) Tryz.underlying35 rfl (by rw [hXs]; exact world_info)) ?_
    simp only [Act.put]
    refine wpList_storeG (by rfl) (by rfl) (by rfl) (by rfl) (store_whole (BR.below b2 BR.lt) (by rw [hXs]; exact world_info) (by rw [hZs, hXs]) hX1) ?_
    simp only [Act.put]
    have b9 := below_setRowP (bCall hb b2) (Nat.le_succ W.heap.size) X
    have B9 := (BR.below b2 BR.lt).row X
    go_wp2_with fail
    exact line_leaves rfl rfl rfl hXs B9 (LineR.no hno.out b9 hXs hX1) rfl
  | some ns =>
    obtain ⟨⟨v6, h6, hv⟩, b2⟩ := hcut
    obtain ⟨rfl, rfl⟩ : u6 = v6 ∧ u7 = .bool true := by simpa using h6
    have hv : wc.ownsRow w1.heap.size 3 1 u6 ns.length (ints ns) := hv
    have ho2 : Hid ((if formR 5 ns = true then some (addR x (5, ns)) else none) = o) := ho
    have c02 := (b2.cell (p := ⟨lb, off, none⟩) hlb1).trans c0
    have hb2 := bCall hb b2
    have BX2 := BX.below b2 BX.lt
    have BR2 := BR.below b2 BR.lt
    have hH2 : W.heap.size + 1 < wc.heap.size := BR2.lt
    obtain ⟨An, cn, rfl⟩ := sl_of hv
    clear ho h6 hb BX BR c0 hlb1
    by_cases hN : ns.length = 3
    case neg =>
      have g1 : ((ns.length : Int) != 3) = true := by rw [bne_iff_ne]; omega
      have hno : Hid (o = none) := Lib.hid (ho2.out.symm.trans (if_neg (by show ¬ decide (ns.length = 3) = true; simp [hN])))
      go_upto_region 24 with fail
      apply wp_region_lit
      refine wpList_loadG (by rfl) (by rfl) (by rfl) (load_blk BX2 Tryz.underlying35 rfl (by rw [hXs]; exact world_info)) ?_
      simp only [Act.put]
      refine wpList_storeG (by rfl) (by rfl) (by rfl) (by rfl) (store_whole BR2 (by rw [hXs]; exact world_info) (by rw [hZs, hXs]) hX1) ?_
      simp only [Act.put]
      have b9 := below_setRowP hb2 (Nat.le_succ W.heap.size) X
      have B9 := BR2.row X
      go_wp2_with fail
      exact line_leaves rfl rfl rfl hXs B9 (LineR.no hno.out b9 hXs hX1) rfl
    match ns, hN with
    | [a0, a1, a2], _ =>
    obtain ⟨LL, hLL⟩ : ∃ LL, Hid (lastL (fun y => { y with rules := y.rules ++ [⟨a0, a1, a2⟩] }) x.lines = LL) := ⟨_, Lib.hid rfl⟩
    have hyes : Hid (o = some { x with lines := LL }) := Lib.hid (ho2.out.symm.trans ((if_pos rfl).trans (by rw [← hLL.out]; rfl)))
    have hv : wc.ownsRow w1.heap.size 3 1 (.slice An 3 cn) 3 (ints [a0, a1, a2]) := hv
    obtain ⟨g, cap, hA9⟩ := own_two hv (by decide)
    injection hA9 with hA9 _ hc9
    subst hA9; subst hc9
    have q := rp_inRule x.offs s.al s.cl_ x.lines g cn a0 a1 a2 W.heap.size N0 wc hb2.size (Nat.le_trans hNW hb2.size) (hk.out.rl.below hb2) hne hlim.lines hlim.line (rd_ownN hv)
    rw [hLL.out] at q
    have k0 := (BX2.cell 0).trans hz0
    have k1 := (BX2.cell 1).trans hz1
    clear ho2 hv
    go_upto_region 48 with (go_at_call 60; (with_reducible refine q.mono ?_); rintro e w6 ⟨g9, c9, rfl, hL, b6⟩; have BX6 := BX2.below b6 BX2.lt; have BR6 := BR2.below b6 BR2.lt; have k3 := (BX6.cell 0).trans hz0; have k4 := (BX6.cell 1).trans hz1; have f3 := BX6.frozen 0; have f4 := BX6.frozen 1)
    have BX8 := (BX6.set_ 0 (.int .i64 x.offs)).set_ 1 (.slice (some ⟨g9, 0, none⟩) LL.length c9)
    have BR8 := (BR6.far (p := ⟨W.heap.size, 0, none⟩) (by simp) (.int .i64 x.offs)).far (p := ⟨W.heap.size, 1, none⟩) (by simp) (.slice (some ⟨g9, 0, none⟩) LL.length c9)
    have hb8 := bSet (p := ⟨W.heap.size, 1, none⟩) (bSet (p := ⟨W.heap.size, 0, none⟩) (bCall hb2 b6) (Nat.le_refl _) (.int .i64 x.offs)) (Nat.le_refl _) (.slice (some ⟨g9, 0, none⟩) LL.length c9)
    rw [hset1.out g9 c9 LL] at BX8
    have hYs : (WS.cl { s with al := some ⟨g9, 0, none⟩, cl_ := c9 } { x with lines := LL }).toArray.size = 43 := wsCl_size hsd
    have hY1 : ∀ v ∈ (WS.cl { s with al := some ⟨g9, 0, none⟩, cl_ := c9 } { x with lines := LL }).toArray.toList, v.oneCell' = true := ws_cell
    have hyes2 : Hid (∀ Y, Hid ((WS.cl { s with al := some ⟨g9, 0, none⟩, cl_ := c9 } { x with lines := LL }).toArray = Y) → ∀ w2, Below W.heap.size W w2 → KeepB W.heap.size wc.heap.size w6 w2 → LineR N0 o W (.returned (.tuple #[.agg Y, .bool true])) w2) := Lib.hid (fun Y hY w2 bb kk => by
      have h := (hk.out.below bb).more bb.size
      have hl := hL w2 kk
      rw [← hY.out]
      exact LineR.yes hyes.out bb ⟨hl, h.rb, h.rg, h.rt, h.ro, h.lo, h.re, h.rs, h.rf⟩ hsd hsb)
    have kB : Hid (∀ Y, KeepB W.heap.size wc.heap.size w6 (((w6.setCell ⟨W.heap.size, 0, none⟩ (.int .i64 x.offs)).setCell ⟨W.heap.size, 1, none⟩ (.slice (some ⟨g9, 0, none⟩) LL.length c9)).setRow (W.heap.size + 1) Y)) := Lib.hid (fun Y => keepB_end (Nat.le_refl _) hH2)
    generalize (w6.setCell ⟨W.heap.size, 0, none⟩ (.int .i64 x.offs)).setCell ⟨W.heap.size, 1, none⟩ (.slice (some ⟨g9, 0, none⟩) LL.length c9) = w8 at *
    obtain ⟨Y, hY⟩ : ∃ Y, Hid ((WS.cl { s with al := some ⟨g9, 0, none⟩, cl_ := c9 } { x with lines := LL }).toArray = Y) := ⟨_, Lib.hid rfl⟩
    rw [hY.out] at BX8 hYs hY1
    apply wp_region_lit
    refine wpList_loadG (by rfl) (by rfl) (by rfl) (load_blk BX8 Tryz.underlying35 rfl (by rw [hYs]; exact world_info)) ?_
    simp only [Act.put]
    refine wpList_storeG (by rfl) (by rfl) (by rfl) (by rfl) (store_whole BR8 (by rw [hYs]; exact world_info) (by rw [hZs, hYs]) hY1) ?_
    simp only [Act.put]
    have b9 := below_setRowP hb8 (Nat.le_succ W.heap.size) Y
    have B9 := BR8.row Y
    go_wp2_with fail
    exact line_leaves rfl rfl rfl hYs B9 (hyes2.out Y hY _ b9 (kB.out Y)) rfl
theorem rp_line6 (N0 : Nat) (s : WS) (x : Wld) (A : Option Addr) (c : Nat) (rest : List ByteArray) (W : World) (hk : WK W W.heap.size N0 s x) (hNW : N0 ≤ W.heap.size) (hsd : x.seed.length = 32) (hsb : ∀ d ∈ x.seed, d < 256) (hlim : x.lim 1000000) (hA : Rd W W.heap.size 1 A (rest.length + 1) (strs (⟨#[103, 97, 112]⟩ :: rest))) (hcap : rest.length + 1 ≤ c) (hl : ∀ t ∈ rest, t.size ≤ 1000000) (hn : rest.length ≤ 1000000) (hne : x.lines ≠ []) :
    Calls Tryz.prog 32 #[.agg (s.cl x).toArray, .slice A (rest.length + 1) c] W (LineR N0 (readR x 6 (bys rest)) W) := by
  have hXs : (s.cl x).toArray.size = 43 := wsCl_size hsd
  have hX1 : ∀ v ∈ (s.cl x).toArray.toList, v.oneCell' = true := ws_cell
  have hZs : (nilWS.cl zeroW).toArray.size = 43 := wsCl_size rfl
  rw [readR_k (by decide)]
  obtain ⟨o, ho⟩ : ∃ o, Hid (rowO x 6 (numsO (bys rest)) = o) := ⟨_, Lib.hid rfl⟩
  rw [ho.out]
  obtain ⟨lb, off, rfl, hlb, hc⟩ := hA.2 (by omega)
  have c0W : W.cell? ⟨lb, off, none⟩ = some (.string ⟨#[103, 97, 112]⟩) := hc 0 _ rfl
  have hAr : Rd W W.heap.size 1 (some ⟨lb, off + 1, none⟩) rest.length (strs rest) := ⟨by unfold strs; simp, fun _ => ⟨lb, off + 1, rfl, hlb, fun j u hu => by
    have := hc (j + 1) u (by unfold strs at hu ⊢; simpa using hu)
    rwa [show off + 1 + j = off + (j + 1) by omega]⟩⟩
  clear hc hA
  have BX := Blk.new W 35 (s.cl x).toArray _ rfl
  have hb := bAl (bRefl W) (.cells (s.cl x).toArray 35)
  have hw1 : (W.alloc (.cells (s.cl x).toArray 35)).heap.size = W.heap.size + 1 := by simp
  have BR := Blk.new (W.alloc (.cells (s.cl x).toArray 35)) 35 (nilWS.cl zeroW).toArray _ hw1.symm
  replace BX := BX.alloc (.cells (nilWS.cl zeroW).toArray 35)
  replace hb := bAl hb (.cells (nilWS.cl zeroW).toArray 35)
  replace hk := Lib.hid hk
  have hz0 : (s.cl x).toArray[0]? = some (.int .i64 x.offs) := ws_at (k := 0) rfl
  have hz1 : (s.cl x).toArray[1]? = some (.slice s.al x.lines.length s.cl_) := ws_at (k := 1) rfl
  have hset1 : Hid (∀ (g9 c9 : Nat) (LL : List Lin), ((s.cl x).toArray.setIfInBounds 0 (.int .i64 x.offs)).setIfInBounds 1 (.slice (some ⟨g9, 0, none⟩) LL.length c9) = (WS.cl { s with al := some ⟨g9, 0, none⟩, cl_ := c9 } { x with lines := LL }).toArray) := Lib.hid (fun g9 c9 LL => by
    rw [List.setIfInBounds_toArray, List.setIfInBounds_toArray]
    refine congrArg List.toArray ?_
    simp [WS.cl])
  obtain ⟨X, hX⟩ : ∃ X, Hid ((s.cl x).toArray = X) := ⟨_, Lib.hid rfl⟩
  rw [hX.out] at hXs hX1 BX BR hb hw1 hz0 hz1 hset1 ⊢
  go_enter Tryz.func32, Tryz.ntmps32
  go_upto_region 1 with fail
  refine (show Code.wp _ _ _ _ ((W.alloc (.cells X 35)).alloc (.cells (nilWS.cl zeroW).toArray 35)) from ?_)
  generalize (nilWS.cl zeroW).toArray = ZW at *
  generalize (W.alloc (.cells X 35)).alloc (.cells ZW 35) = w1 at *
  clear hw1
  have c0 := (hb.cell (p := ⟨lb, off, none⟩) hlb).trans c0W
  have hlb1 : lb < w1.heap.size := Nat.lt_of_lt_of_le hlb hb.size
  have q1 : Hid (Calls Tryz.prog 59 #[.slice (some ⟨lb, off + 1, none⟩) rest.length (c - 1)] w1 (NumsR (numsO (bys rest)) w1)) := Lib.hid (rp_numbers (some ⟨lb, off + 1, none⟩) (c - 1) rest w1 ((hAr.below hb).more hb.size) hl hn)
  have q0 : Hid (rest.length = 0 → Calls Tryz.prog 59 #[.slice (some ⟨lb, off, none⟩) 0 0] w1 (NumsR (numsO (bys rest)) w1)) := Lib.hid (fun h0 => by
    obtain rfl := List.length_eq_zero_iff.1 h0
    exact rp_numbers (some ⟨lb, off, none⟩) 0 [] w1 ⟨rfl, fun h => absurd h (by decide)⟩ hl hn)
  have j0 : (1 : Int) ≤ (rest.length : Int) + 1 := by omega
  have j1 : (rest.length : Int) + 1 ≤ (c : Int) := by omega
  have j2 : (0 : Int) ≤ (rest.length : Int) + 1 := by omega
  have hH1 := BR.lt
  clear hAr c0W hl
  have v1 : ((⟨#[103, 97, 112]⟩ : ByteArray).toList == (⟨#[119, 111, 114, 108, 100]⟩ : ByteArray).toList) = false := str_ne (by decide)
  have v2 : ((⟨#[103, 97, 112]⟩ : ByteArray).toList == (⟨#[99, 108, 97, 115, 115]⟩ : ByteArray).toList) = false := str_ne (by decide)
  have v3 : ((⟨#[103, 97, 112]⟩ : ByteArray).toList == (⟨#[116, 105, 101, 114]⟩ : ByteArray).toList) = false := str_ne (by decide)
  have v4 : ((⟨#[103, 97, 112]⟩ : ByteArray).toList == (⟨#[108, 105, 110, 101]⟩ : ByteArray).toList) = false := str_ne (by decide)
  have v5 : ((⟨#[103, 97, 112]⟩ : ByteArray).toList == (⟨#[114, 117, 108, 101]⟩ : ByteArray).toList) = false := str_ne (by decide)
  have hnl : Hid (∀ ns, numsO (bys rest) = some ns → ns.length ≤ 1000000) := Lib.hid (fun ns h => by have := numsO_len h; unfold bys at this; rw [List.length_map] at this; omega)
  generalize numsO (bys rest) = on at *
  have hc4 : (c : Int) - 1 = ((c - 1 : Nat) : Int) := by omega
  have j3 : (rest.length : Int) + 1 - 1 = (rest.length : Int) := by omega
  go_upto_region 3 with fail
  go_cut [6, 7] from 21 to 26 (fun s6 s7 wc => NumsR on w1 (.returned (.tuple #[s6, s7])) wc)
  case first =>
    by_cases hc1 : c = 1
    · have q := (q0.out (by omega)).mono (fun _ _ h => h.shape)
      subst hc1
      go_wp2_with (go_at_call 59; (with_reducible refine q.mono ?_); rintro e w2 ⟨v, ok, rfl, h⟩)
      go_meet
      exact h
    · have q := q1.out.mono (fun _ _ h => h.shape)
      have hc5 : ¬ (c - 1 = 0) := by omega
      have hc6 : ¬ (((c - 1 : Nat) : Int) = 0) := by omega
      go_wp2_with (go_at_call 59; (with_reducible refine q.mono ?_); rintro e w2 ⟨v, ok, rfl, h⟩)
      go_meet
      exact h
  case rest =>
  clear q1 q0 hc4 j0 j1 j2 j3 hn
  cases on with
  | none =>
    have hno : Hid (o = none) := Lib.hid ho.out.symm
    obtain ⟨h6, b2⟩ := hcut
    have h6 : Ending.returned (.tuple #[u6, u7]) = .returned (.tuple #[.slice none 0 0, .bool false]) := h6
    obtain ⟨rfl, rfl⟩ : u6 = .slice none 0 0 ∧ u7 = .bool false := by simpa using h6
    go_upto_region 5 with fail
    apply wp_region_lit
    refine wpList_loadG (by rfl) (by rfl) (by rfl) (load_blk (BX.below b2 BX.lt) Tryz.underlying35 rfl (by rw [hXs]; exact world_info)) ?_
    simp only [Act.put]
    refine wpList_storeG (by rfl) (by rfl) (by rfl) (by rfl) (store_whole (BR.below b2 BR.lt) (by rw [hXs]; exact world_info) (by rw [hZs, hXs]) hX1) ?_
    simp only [Act.put]
    have b9 := below_setRowP (bCall hb b2) (Nat.le_succ W.heap.size) X
    have B9 := (BR.below b2 BR.lt).row X
    go_wp2_with fail
    exact line_leaves rfl rfl rfl hXs B9 (LineR.no hno.out b9 hXs hX1) rfl
  | some ns =>
    obtain ⟨⟨v6, h6, hv⟩, b2⟩ := hcut
    obtain ⟨rfl, rfl⟩ : u6 = v6 ∧ u7 = .bool true := by simpa using h6
    have hv : wc.ownsRow w1.heap.size 3 1 u6 ns.length (ints ns) := hv
    have ho2 : Hid ((if formR 6 ns = true then some (addR x (6, ns)) else none) = o) := ho
    have c02 := (b2.cell (p := ⟨lb, off, none⟩) hlb1).trans c0
    have hb2 := bCall hb b2
    have BX2 := BX.below b2 BX.lt
    have BR2 := BR.below b2 BR.lt
    have hH2 : W.heap.size + 1 < wc.heap.size := BR2.lt
    obtain ⟨An, cn, rfl⟩ := sl_of hv
    clear ho h6 hb BX BR c0 hlb1
    by_cases hN : ns.length = 2
    case neg =>
      have g1 : ((ns.length : Int) != 2) = true := by rw [bne_iff_ne]; omega
      have hno : Hid (o = none) := Lib.hid (ho2.out.symm.trans (if_neg (by show ¬ decide (ns.length = 2) = true; simp [hN])))
      go_upto_region 28 with fail
      apply wp_region_lit
      refine wpList_loadG (by rfl) (by rfl) (by rfl) (load_blk BX2 Tryz.underlying35 rfl (by rw [hXs]; exact world_info)) ?_
      simp only [Act.put]
      refine wpList_storeG (by rfl) (by rfl) (by rfl) (by rfl) (store_whole BR2 (by rw [hXs]; exact world_info) (by rw [hZs, hXs]) hX1) ?_
      simp only [Act.put]
      have b9 := below_setRowP hb2 (Nat.le_succ W.heap.size) X
      have B9 := BR2.row X
      go_wp2_with fail
      exact line_leaves rfl rfl rfl hXs B9 (LineR.no hno.out b9 hXs hX1) rfl
    match ns, hN with
    | [a0, a1], _ =>
    obtain ⟨LL, hLL⟩ : ∃ LL, Hid (lastL (fun y => { y with off := y.off ++ [⟨a0, a1⟩] }) x.lines = LL) := ⟨_, Lib.hid rfl⟩
    have hyes : Hid (o = some { x with lines := LL }) := Lib.hid (ho2.out.symm.trans ((if_pos rfl).trans (by rw [← hLL.out]; rfl)))
    have hv : wc.ownsRow w1.heap.size 3 1 (.slice An 2 cn) 2 (ints [a0, a1]) := hv
    obtain ⟨g, cap, hA9⟩ := own_two hv (by decide)
    injection hA9 with hA9 _ hc9
    subst hA9; subst hc9
    have q := rp_inGap x.offs s.al s.cl_ x.lines g cn a0 a1 W.heap.size N0 wc hb2.size (Nat.le_trans hNW hb2.size) (hk.out.rl.below hb2) hne hlim.lines hlim.line (rd_ownN hv)
    rw [hLL.out] at q
    have k0 := (BX2.cell 0).trans hz0
    have k1 := (BX2.cell 1).trans hz1
    clear ho2 hv
    go_upto_region 48 with (go_at_call 60; (with_reducible refine q.mono ?_); rintro e w6 ⟨g9, c9, rfl, hL, b6⟩; have BX6 := BX2.below b6 BX2.lt; have BR6 := BR2.below b6 BR2.lt; have k3 := (BX6.cell 0).trans hz0; have k4 := (BX6.cell 1).trans hz1; have f3 := BX6.frozen 0; have f4 := BX6.frozen 1)
    have BX8 := (BX6.set_ 0 (.int .i64 x.offs)).set_ 1 (.slice (some ⟨g9, 0, none⟩) LL.length c9)
    have BR8 := (BR6.far (p := ⟨W.heap.size, 0, none⟩) (by simp) (.int .i64 x.offs)).far (p := ⟨W.heap.size, 1, none⟩) (by simp) (.slice (some ⟨g9, 0, none⟩) LL.length c9)
    have hb8 := bSet (p := ⟨W.heap.size, 1, none⟩) (bSet (p := ⟨W.heap.size, 0, none⟩) (bCall hb2 b6) (Nat.le_refl _) (.int .i64 x.offs)) (Nat.le_refl _) (.slice (some ⟨g9, 0, none⟩) LL.length c9)
    rw [hset1.out g9 c9 LL] at BX8
    have hYs : (WS.cl { s with al := some ⟨g9, 0, none⟩, cl_ := c9 } { x with lines := LL }).toArray.size = 43 := wsCl_size hsd
    have hY1 : ∀ v ∈ (WS.cl { s with al := some ⟨g9, 0, none⟩, cl_ := c9 } { x with lines := LL }).toArray.toList, v.oneCell' = true := ws_cell
    have hyes2 : Hid (∀ Y, Hid ((WS.cl { s with al := some ⟨g9, 0, none⟩, cl_ := c9 } { x with lines := LL }).toArray = Y) → ∀ w2, Below W.heap.size W w2 → KeepB W.heap.size wc.heap.size w6 w2 → LineR N0 o W (.returned (.tuple #[.agg Y, .bool true])) w2) := Lib.hid (fun Y hY w2 bb kk => by
      have h := (hk.out.below bb).more bb.size
      have hl := hL w2 kk
      rw [← hY.out]
      exact LineR.yes hyes.out bb ⟨hl, h.rb, h.rg, h.rt, h.ro, h.lo, h.re, h.rs, h.rf⟩ hsd hsb)
    have kB : Hid (∀ Y, KeepB W.heap.size wc.heap.size w6 (((w6.setCell ⟨W.heap.size, 0, none⟩ (.int .i64 x.offs)).setCell ⟨W.heap.size, 1, none⟩ (.slice (some ⟨g9, 0, none⟩) LL.length c9)).setRow (W.heap.size + 1) Y)) := Lib.hid (fun Y => keepB_end (Nat.le_refl _) hH2)
    generalize (w6.setCell ⟨W.heap.size, 0, none⟩ (.int .i64 x.offs)).setCell ⟨W.heap.size, 1, none⟩ (.slice (some ⟨g9, 0, none⟩) LL.length c9) = w8 at *
    obtain ⟨Y, hY⟩ : ∃ Y, Hid ((WS.cl { s with al := some ⟨g9, 0, none⟩, cl_ := c9 } { x with lines := LL }).toArray = Y) := ⟨_, Lib.hid rfl⟩
    rw [hY.out] at BX8 hYs hY1
    apply wp_region_lit
    refine wpList_loadG (by rfl) (by rfl) (by rfl) (load_blk BX8 Tryz.underlying35 rfl (by rw [hYs]; exact world_info)) ?_
    simp only [Act.put]
    refine wpList_storeG (by rfl) (by rfl) (by rfl) (by rfl) (store_whole BR8 (by rw [hYs]; exact world_info) (by rw [hZs, hYs]) hY1) ?_
    simp only [Act.put]
    have b9 := below_setRowP hb8 (Nat.le_succ W.heap.size) Y
    have B9 := BR8.row Y
    go_wp2_with fail
    exact line_leaves rfl rfl rfl hYs B9 (hyes2.out Y hY _ b9 (kB.out Y)) rfl
end Go.Proofs.YtmbopkcmbiommaaGreatDoor
