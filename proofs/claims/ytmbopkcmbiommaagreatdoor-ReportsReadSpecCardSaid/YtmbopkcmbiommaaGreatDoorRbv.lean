/- The reference's readLine: entries; walked (printed by gen/SqH.py). -/
import Derived.Test.YtmbopkcmbiommaaGreatDoorRbq
set_option maxRecDepth 1000000
set_option maxHeartbeats 16000000
namespace Go.Proofs.YtmbopkcmbiommaaGreatDoor
open Go Go.RowKit
theorem rp_line8 (N0 : Nat) (s : WS) (x : Wld) (A : Option Addr) (c : Nat) (rest : List ByteArray) (W : World) (hk : WK W W.heap.size N0 s x) (hNW : N0 ≤ W.heap.size) (hsd : x.seed.length = 32) (hsb : ∀ d ∈ x.seed, d < 256) (hlim : x.lim 1000000) (hA : Rd W W.heap.size 1 A (rest.length + 1) (strs (⟨#[101, 110, 116, 114, 121]⟩ :: rest))) (hcap : rest.length + 1 ≤ c) (hl : ∀ t ∈ rest, t.size ≤ 1000000) (hn : rest.length ≤ 1000000) :
    Calls Tryz.prog 32 #[.agg (s.cl x).toArray, .slice A (rest.length + 1) c] W (LineR N0 (readR x 8 (bys rest)) W) := by
  have hXs : (s.cl x).toArray.size = 43 := wsCl_size hsd
  have hX1 : ∀ v ∈ (s.cl x).toArray.toList, v.oneCell' = true := ws_cell
  have hZs : (nilWS.cl zeroW).toArray.size = 43 := wsCl_size rfl
  rw [readR_k (by decide)]
  obtain ⟨o, ho⟩ : ∃ o, Hid (rowO x 8 (numsO (bys rest)) = o) := ⟨_, Lib.hid rfl⟩
  rw [ho.out]
  obtain ⟨lb, off, rfl, hlb, hc⟩ := hA.2 (by omega)
  have c0W : W.cell? ⟨lb, off, none⟩ = some (.string ⟨#[101, 110, 116, 114, 121]⟩) := hc 0 _ rfl
  have hAr : Rd W W.heap.size 1 (some ⟨lb, off + 1, none⟩) rest.length (strs rest) := ⟨by unfold strs; simp, fun _ => ⟨lb, off + 1, rfl, hlb, fun j u hu => by
    have := hc (j + 1) u (by unfold strs at hu ⊢; simpa using hu)
    rwa [show off + 1 + j = off + (j + 1) by omega]⟩⟩
  clear hc hA
  have BX := Blk.new W 35 (s.cl x).toArray _ rfl
  have hb := bAl (bRefl W) (.cells (s.cl x).toArray 35)
  have hw1 : (W.alloc (.cells (s.cl x).toArray 35)).heap.size = W.heap.size + 1 := by simp
  have BR := Blk.new (W.alloc (.cells (s.cl x).toArray 35)) 35 (nilWS.cl zeroW).toArray _ hw1.symm
  replace BX := BX.alloc (.cells (nilWS.cl zeroW).toArray 35)
  replace hb := bAl hb (.cells (nilWS.cl zeroW).toArray 35)
  replace hk := Lib.hid hk
  have hc7 : (s.cl x).toArray[7]? = some (.slice s.ae x.ents.length s.ce) := ws_at (k := 7) rfl
  have hset7 : Hid (∀ (g9 c9 : Nat) (a0 a1 a2 a3 a4 a5 a6 a7 : Int), (s.cl x).toArray.setIfInBounds 7 (.slice (some ⟨g9, 0, none⟩) (x.ents.length + 1) c9) = (WS.cl { s with ae := some ⟨g9, 0, none⟩, ce := c9 } (addR x (8, [a0, a1, a2, a3, a4, a5, a6, a7]))).toArray) := Lib.hid (fun g9 c9 a0 a1 a2 a3 a4 a5 a6 a7 => by
    rw [List.setIfInBounds_toArray]
    refine congrArg List.toArray ?_
    simp [WS.cl, addR])
  obtain ⟨X, hX⟩ : ∃ X, Hid ((s.cl x).toArray = X) := ⟨_, Lib.hid rfl⟩
  rw [hX.out] at hXs hX1 BX BR hb hw1 hc7 hset7 ⊢
  go_enter Tryz.func32, Tryz.ntmps32
  go_upto_region 1 with fail
  refine (show Code.wp _ _ _ _ ((W.alloc (.cells X 35)).alloc (.cells (nilWS.cl zeroW).toArray 35)) from ?_)
  generalize (nilWS.cl zeroW).toArray = ZW at *
  generalize (W.alloc (.cells X 35)).alloc (.cells ZW 35) = w1 at *
  clear hw1
  have c0 := (hb.cell (p := ⟨lb, off, none⟩) hlb).trans c0W
  have hlb1 : lb < w1.heap.size := Nat.lt_of_lt_of_le hlb hb.size
  have q1 : Hid (Calls Tryz.prog 59 #[.slice (some ⟨lb, off + 1, none⟩) rest.length (c - 1)] w1 (NumsR (numsO (bys rest)) w1)) := Lib.hid (rp_numbers (some ⟨lb, off + 1, none⟩) (c - 1) rest w1 ((hAr.below hb).more hb.size) hl hn)
  have q0 : Hid (rest.length = 0 → Calls Tryz.prog 59 #[.slice (some ⟨lb, off, none⟩) 0 0] w1 (NumsR (numsO (bys rest)) w1)) := Lib.hid (fun h0 => by
    obtain rfl := List.length_eq_zero_iff.1 h0
    exact rp_numbers (some ⟨lb, off, none⟩) 0 [] w1 ⟨rfl, fun h => absurd h (by decide)⟩ hl hn)
  have j0 : (1 : Int) ≤ (rest.length : Int) + 1 := by omega
  have j1 : (rest.length : Int) + 1 ≤ (c : Int) := by omega
  have j2 : (0 : Int) ≤ (rest.length : Int) + 1 := by omega
  have hH1 := BR.lt
  clear hAr c0W hl
  have v1 : ((⟨#[101, 110, 116, 114, 121]⟩ : ByteArray).toList == (⟨#[119, 111, 114, 108, 100]⟩ : ByteArray).toList) = false := str_ne (by decide)
  have v2 : ((⟨#[101, 110, 116, 114, 121]⟩ : ByteArray).toList == (⟨#[99, 108, 97, 115, 115]⟩ : ByteArray).toList) = false := str_ne (by decide)
  have v3 : ((⟨#[101, 110, 116, 114, 121]⟩ : ByteArray).toList == (⟨#[116, 105, 101, 114]⟩ : ByteArray).toList) = false := str_ne (by decide)
  have v4 : ((⟨#[101, 110, 116, 114, 121]⟩ : ByteArray).toList == (⟨#[108, 105, 110, 101]⟩ : ByteArray).toList) = false := str_ne (by decide)
  have v5 : ((⟨#[101, 110, 116, 114, 121]⟩ : ByteArray).toList == (⟨#[114, 117, 108, 101]⟩ : ByteArray).toList) = false := str_ne (by decide)
  have v6 : ((⟨#[101, 110, 116, 114, 121]⟩ : ByteArray).toList == (⟨#[103, 97, 112]⟩ : ByteArray).toList) = false := str_ne (by decide)
  have v7 : ((⟨#[101, 110, 116, 114, 121]⟩ : ByteArray).toList == (⟨#[111, 114, 100, 101, 114]⟩ : ByteArray).toList) = false := str_ne (by decide)
  have hnl : Hid (∀ ns, numsO (bys rest) = some ns → ns.length ≤ 1000000) := Lib.hid (fun ns h => by have := numsO_len h; unfold bys at this; rw [List.length_map] at this; omega)
  generalize numsO (bys rest) = on at *
  have hc4 : (c : Int) - 1 = ((c - 1 : Nat) : Int) := by omega
  have j3 : (rest.length : Int) + 1 - 1 = (rest.length : Int) := by omega
  go_upto_region 3 with fail
  go_cut [6, 7] from 21 to 26 (fun s6 s7 wc => NumsR on w1 (.returned (.tuple #[s6, s7])) wc)
  case first =>
    by_cases hc1 : c = 1
    · have q := (q0.out (by omega)).mono (fun _ _ h => h.shape)
      subst hc1
      go_wp2_with (go_at_call 59; (with_reducible refine q.mono ?_); rintro e w2 ⟨v, ok, rfl, h⟩)
      go_meet
      exact h
    · have q := q1.out.mono (fun _ _ h => h.shape)
      have hc5 : ¬ (c - 1 = 0) := by omega
      have hc6 : ¬ (((c - 1 : Nat) : Int) = 0) := by omega
      go_wp2_with (go_at_call 59; (with_reducible refine q.mono ?_); rintro e w2 ⟨v, ok, rfl, h⟩)
      go_meet
      exact h
  case rest =>
  clear q1 q0 hc4 j0 j1 j2 j3 hn
  cases on with
  | none =>
    have hno : Hid (o = none) := Lib.hid ho.out.symm
    obtain ⟨h6, b2⟩ := hcut
    have h6 : Ending.returned (.tuple #[u6, u7]) = .returned (.tuple #[.slice none 0 0, .bool false]) := h6
    obtain ⟨rfl, rfl⟩ : u6 = .slice none 0 0 ∧ u7 = .bool false := by simpa using h6
    go_upto_region 5 with fail
    apply wp_region_lit
    refine wpList_loadG (by rfl) (by rfl) (by rfl) (load_blk (BX.below b2 BX.lt) Tryz.underlying35 rfl (by rw [hXs]; exact world_info)) ?_
    simp only [Act.put]
    refine wpList_storeG (by rfl) (by rfl) (by rfl) (by rfl) (store_whole (BR.below b2 BR.lt) (by rw [hXs]; exact world_info) (by rw [hZs, hXs]) hX1) ?_
    simp only [Act.put]
    have b9 := below_setRowP (bCall hb b2) (Nat.le_succ W.heap.size) X
    have B9 := (BR.below b2 BR.lt).row X
    go_wp2_with fail
    exact line_leaves rfl rfl rfl hXs B9 (LineR.no hno.out b9 hXs hX1) rfl
  | some ns =>
    obtain ⟨⟨v6, h6, hv⟩, b2⟩ := hcut
    obtain ⟨rfl, rfl⟩ : u6 = v6 ∧ u7 = .bool true := by simpa using h6
    have hv : wc.ownsRow w1.heap.size 3 1 u6 ns.length (ints ns) := hv
    have ho2 : Hid ((if formR 8 ns = true then some (addR x (8, ns)) else none) = o) := ho
    have c02 := (b2.cell (p := ⟨lb, off, none⟩) hlb1).trans c0
    have hb2 := bCall hb b2
    have BX2 := BX.below b2 BX.lt
    have BR2 := BR.below b2 BR.lt
    have hH2 : W.heap.size + 1 < wc.heap.size := BR2.lt
    obtain ⟨An, cn, rfl⟩ := sl_of hv
    clear ho h6 hb BX BR c0 hlb1
    by_cases hN : ns.length = 8
    case neg =>
      have g1 : ((ns.length : Int) != 8) = true := by rw [bne_iff_ne]; omega
      have hno : Hid (o = none) := Lib.hid (ho2.out.symm.trans (if_neg (by show ¬ decide (ns.length = 8) = true; simp [hN])))
      go_upto_region 37 with fail
      apply wp_region_lit
      refine wpList_loadG (by rfl) (by rfl) (by rfl) (load_blk BX2 Tryz.underlying35 rfl (by rw [hXs]; exact world_info)) ?_
      simp only [Act.put]
      refine wpList_storeG (by rfl) (by rfl) (by rfl) (by rfl) (store_whole BR2 (by rw [hXs]; exact world_info) (by rw [hZs, hXs]) hX1) ?_
      simp only [Act.put]
      have b9 := below_setRowP hb2 (Nat.le_succ W.heap.size) X
      have B9 := BR2.row X
      go_wp2_with fail
      exact line_leaves rfl rfl rfl hXs B9 (LineR.no hno.out b9 hXs hX1) rfl
    match ns, hN with
    | [a0, a1, a2, a3, a4, a5, a6, a7], _ =>
    have hyes : Hid (o = some (addR x (8, [a0, a1, a2, a3, a4, a5, a6, a7]))) := Lib.hid (ho2.out.symm.trans (if_pos rfl))
    have hv : wc.ownsRow w1.heap.size 3 1 (.slice An 8 cn) 8 (ints [a0, a1, a2, a3, a4, a5, a6, a7]) := hv
    obtain ⟨g, cap, hA9⟩ := own_two hv (by decide)
    injection hA9 with hA9 _ hc9
    subst hA9; subst hc9
    obtain ⟨-, hg0, cur, BG, -, -, -, -⟩ := OwnAt.parts hv
    have d0 : wc.cell? ⟨g, 0, none⟩ = some (.int .i64 a0) := own_cell hv rfl
    have d1 : wc.cell? ⟨g, 1, none⟩ = some (.int .i64 a1) := own_cell hv rfl
    have d2 : wc.cell? ⟨g, 2, none⟩ = some (.int .i64 a2) := own_cell hv rfl
    have d3 : wc.cell? ⟨g, 3, none⟩ = some (.int .i64 a3) := own_cell hv rfl
    have d4 : wc.cell? ⟨g, 4, none⟩ = some (.int .i64 a4) := own_cell hv rfl
    have d5 : wc.cell? ⟨g, 5, none⟩ = some (.int .i64 a5) := own_cell hv rfl
    have d6 : wc.cell? ⟨g, 6, none⟩ = some (.int .i64 a6) := own_cell hv rfl
    have d7 : wc.cell? ⟨g, 7, none⟩ = some (.int .i64 a7) := own_cell hv rfl
    have hgl := BG.lt
    clear ho2 hv BG
    have KS : Hid (∀ w', Below wc.heap.size wc w' → w'.cell? ⟨g, 0, none⟩ = some (.int .i64 a0) ∧ w'.cell? ⟨g, 1, none⟩ = some (.int .i64 a1) ∧ w'.cell? ⟨g, 2, none⟩ = some (.int .i64 a2) ∧ w'.cell? ⟨g, 3, none⟩ = some (.int .i64 a3) ∧ w'.cell? ⟨g, 4, none⟩ = some (.int .i64 a4) ∧ w'.cell? ⟨g, 5, none⟩ = some (.int .i64 a5) ∧ w'.cell? ⟨g, 6, none⟩ = some (.int .i64 a6) ∧ w'.cell? ⟨g, 7, none⟩ = some (.int .i64 a7)) := Lib.hid (fun w' bb => ⟨(bb.cell (p := ⟨g, 0, none⟩) hgl).trans d0, (bb.cell (p := ⟨g, 1, none⟩) hgl).trans d1, (bb.cell (p := ⟨g, 2, none⟩) hgl).trans d2, (bb.cell (p := ⟨g, 3, none⟩) hgl).trans d3, (bb.cell (p := ⟨g, 4, none⟩) hgl).trans d4, (bb.cell (p := ⟨g, 5, none⟩) hgl).trans d5, (bb.cell (p := ⟨g, 6, none⟩) hgl).trans d6, (bb.cell (p := ⟨g, 7, none⟩) hgl).trans d7⟩)
    go_upto_region 38 with fail
    refine wp_region_schU (fun w' => w'.cell? ⟨g, 0, none⟩ = some (.int .i64 a0) ∧ w'.cell? ⟨g, 1, none⟩ = some (.int .i64 a1) ∧ w'.cell? ⟨g, 2, none⟩ = some (.int .i64 a2) ∧ w'.cell? ⟨g, 3, none⟩ = some (.int .i64 a3) ∧ w'.cell? ⟨g, 4, none⟩ = some (.int .i64 a4) ∧ w'.cell? ⟨g, 5, none⟩ = some (.int .i64 a5) ∧ w'.cell? ⟨g, 6, none⟩ = some (.int .i64 a6) ∧ w'.cell? ⟨g, 7, none⟩ = some (.int .i64 a7)) 26 1 [(0, 1), (1, 1), (2, 2), (3, 1), (4, 1), (5, 2), (6, 1), (7, 1), (8, 2), (9, 1), (10, 1), (11, 2), (12, 1), (13, 1), (14, 2), (15, 1), (16, 1), (17, 2), (18, 1), (19, 1), (20, 2), (21, 1), (22, 1), (23, 2), (24, 1), (25, 0)] (KS.out _ (bDr (bRefl wc))) ?_
    simp only [pickS, List.getElem?_cons_zero, List.getElem?_cons_succ]
    refine wpSchedU_t ?_
    refine wpSchedU_t ?_
    refine wpSchedU_r ?_
    refine wpSchedU_t ?_
    refine wpSchedU_t ?_
    refine wpSchedU_r ?_
    refine wpSchedU_t ?_
    refine wpSchedU_t ?_
    refine wpSchedU_r ?_
    refine wpSchedU_t ?_
    refine wpSchedU_t ?_
    refine wpSchedU_r ?_
    refine wpSchedU_t ?_
    refine wpSchedU_t ?_
    refine wpSchedU_r ?_
    refine wpSchedU_t ?_
    refine wpSchedU_t ?_
    refine wpSchedU_r ?_
    refine wpSchedU_t ?_
    refine wpSchedU_t ?_
    refine wpSchedU_r ?_
    refine wpSchedU_t ?_
    refine wpSchedU_t ?_
    refine wpSchedU_r ?_
    refine wpSchedU_t ?_
    have hE := bDr (bRefl wc)
    generalize wc.drew = wE at *
    refine wpSchedU_force (fun K hK => ?_)
    go_simp
    refine shut_go hK KS ?_
    clear hK K
    refine anyU_list [(26, 3)] ?_
    simp only [pickS, List.getElem?_cons_zero, List.getElem?_cons_succ, List.map_cons, List.map_nil]
    go_wp2_with fail
    refine NoPanic.normal ?_
    have BE := Blk.new wE 67 #[.int .i64 a0, .int .i64 a1, .int .i64 a2, .int .i64 a3, .int .i64 a4, .int .i64 a5, .int .i64 a6, .int .i64 a7] _ rfl
    replace hb2 := bAl (hb2.trans (hE.mono hb2.size)) (.cells #[.int .i64 a0, .int .i64 a1, .int .i64 a2, .int .i64 a3, .int .i64 a4, .int .i64 a5, .int .i64 a6, .int .i64 a7] 67)
    replace BX2 := (BX2.below hE BX2.lt).alloc (.cells #[.int .i64 a0, .int .i64 a1, .int .i64 a2, .int .i64 a3, .int .i64 a4, .int .i64 a5, .int .i64 a6, .int .i64 a7] 67)
    replace BR2 := (BR2.below hE BR2.lt).alloc (.cells #[.int .i64 a0, .int .i64 a1, .int .i64 a2, .int .i64 a3, .int .i64 a4, .int .i64 a5, .int .i64 a6, .int .i64 a7] 67)
    have hgE := bAl hE (.cells #[.int .i64 a0, .int .i64 a1, .int .i64 a2, .int .i64 a3, .int .i64 a4, .int .i64 a5, .int .i64 a6, .int .i64 a7] 67)
    replace hH2 := BR2.lt
    clear KS
    try dsimp only
    generalize wE.alloc (.cells #[.int .i64 a0, .int .i64 a1, .int .i64 a2, .int .i64 a3, .int .i64 a4, .int .i64 a5, .int .i64 a6, .int .i64 a7] 67) = w3 at *
    generalize wE.heap.size = eb at *
    have KS : Hid (∀ w', Below w3.heap.size w3 w' → w'.cell? ⟨W.heap.size, 7, none⟩ = some (.slice s.ae x.ents.length s.ce) ∧ w'.cell? ⟨eb, 0, none⟩ = some (.int .i64 a0) ∧ w'.cell? ⟨eb, 1, none⟩ = some (.int .i64 a1) ∧ w'.cell? ⟨eb, 2, none⟩ = some (.int .i64 a2) ∧ w'.cell? ⟨eb, 3, none⟩ = some (.int .i64 a3) ∧ w'.cell? ⟨eb, 4, none⟩ = some (.int .i64 a4) ∧ w'.cell? ⟨eb, 5, none⟩ = some (.int .i64 a5) ∧ w'.cell? ⟨eb, 6, none⟩ = some (.int .i64 a6) ∧ w'.cell? ⟨eb, 7, none⟩ = some (.int .i64 a7)) := Lib.hid (fun w' bb => ⟨((BX2.below bb BX2.lt).cell 7).trans hc7, (BE.below bb BE.lt).cell 0, (BE.below bb BE.lt).cell 1, (BE.below bb BE.lt).cell 2, (BE.below bb BE.lt).cell 3, (BE.below bb BE.lt).cell 4, (BE.below bb BE.lt).cell 5, (BE.below bb BE.lt).cell 6, (BE.below bb BE.lt).cell 7⟩)
    have r2 : ∀ w, (Instr.buildSlice 30 1 #[(0, (.agg #[.int .i64 a0, .int .i64 a1, .int .i64 a2, .int .i64 a3, .int .i64 a4, .int .i64 a5, .int .i64 a6, .int .i64 a7]))]).run Tryz.prog w = .ok (.slice (some ⟨w.heap.size, 0, none⟩) 1 1) (w.alloc (.cells ([Value.int .i64 a0, Value.int .i64 a1, Value.int .i64 a2, Value.int .i64 a3, Value.int .i64 a4, Value.int .i64 a5, Value.int .i64 a6, Value.int .i64 a7] : List Value).toArray 67)) := fun w => run_one (z := #[.int .i64 0, .int .i64 0, .int .i64 0, .int .i64 0, .int .i64 0, .int .i64 0, .int .i64 0, .int .i64 0]) Tryz.underlying30 ent_info rfl (by omega) (by omega) w
    have onex : ∀ u ∈ [Value.int .i64 a0, Value.int .i64 a1, Value.int .i64 a2, Value.int .i64 a3, Value.int .i64 a4, Value.int .i64 a5, Value.int .i64 a6, Value.int .i64 a7], u.oneCell' = true := by intro u hu; simp at hu; rcases hu with rfl | rfl | rfl | rfl | rfl | rfl | rfl | rfl <;> rfl
    have oney : ∀ u ∈ x.ents.flatMap Ent.cl, u.oneCell' = true := by
      intro u hu
      obtain ⟨z, _, hz⟩ := List.mem_flatMap.1 hu
      unfold Ent.cl at hz
      simp only [List.mem_cons, List.not_mem_nil, or_false] at hz
      rcases hz with rfl | rfl | rfl | rfl | rfl | rfl | rfl | rfl <;> rfl
    have hlm := hlim.ents
    have g63 : x.ents.length + 1 ≤ maxLen := by unfold maxLen; omega
    have gby : (x.ents.length + 1) * 64 ≤ 140737488355328 := by omega
    go_upto_region 39 with fail
    refine wp_region_schU (fun w' => w'.cell? ⟨W.heap.size, 7, none⟩ = some (.slice s.ae x.ents.length s.ce) ∧ w'.cell? ⟨eb, 0, none⟩ = some (.int .i64 a0) ∧ w'.cell? ⟨eb, 1, none⟩ = some (.int .i64 a1) ∧ w'.cell? ⟨eb, 2, none⟩ = some (.int .i64 a2) ∧ w'.cell? ⟨eb, 3, none⟩ = some (.int .i64 a3) ∧ w'.cell? ⟨eb, 4, none⟩ = some (.int .i64 a4) ∧ w'.cell? ⟨eb, 5, none⟩ = some (.int .i64 a5) ∧ w'.cell? ⟨eb, 6, none⟩ = some (.int .i64 a6) ∧ w'.cell? ⟨eb, 7, none⟩ = some (.int .i64 a7)) 6 6 [(1, 1), (2, 2), (4, 2)] (KS.out _ (bDr (bRefl w3))) ?_
    simp only [pickS, List.getElem?_cons_zero, List.getElem?_cons_succ]
    refine wpSchedU_t ?_
    refine wpSchedU_r ?_
    refine wpSchedU_r ?_
    have hD := bDr (bRefl w3)
    generalize w3.drew = wD at *
    refine anyU_fresh 0 3 5 6 [(6, 3), (7, 3), (8, 3)] 30 67 (.agg #[.int .i64 0, .int .i64 0, .int .i64 0, .int .i64 0, .int .i64 0, .int .i64 0, .int .i64 0, .int .i64 0]) 8 64 s.ae x.ents.length s.ce W.heap.size (x.ents.flatMap Ent.cl) [Value.int .i64 a0, Value.int .i64 a1, Value.int .i64 a2, Value.int .i64 a3, Value.int .i64 a4, Value.int .i64 a5, Value.int .i64 a6, Value.int .i64 a7] (.agg #[.int .i64 a0, .int .i64 a1, .int .i64 a2, .int .i64 a3, .int .i64 a4, .int .i64 a5, .int .i64 a6, .int .i64 a7]) Tryz.underlying30 ent_info rfl (by omega) ((hk.out.re.1).below (hb2.trans (hD.mono hb2.size))) (Nat.le_trans hb2.size hD.size) rfl r2 oney onex g63 gby (fun w' bb => KS.out _ (hD.trans (bb.mono hD.size))) (fun x0 x1 x2 v9 w5 hown9 hbl => ?_)
    obtain ⟨g9, c9, rfl⟩ := own_two hown9 (by omega)
    have hg9N : N0 ≤ g9 := by have h1 := (OwnAt.parts hown9).2.1; have h2 := hb2.size; have h3 := hD.size; omega
    simp only [Act.put, List.setIfInBounds_toArray, List.set_cons_zero, List.set_cons_succ]
    have hb5 := hD.trans (hbl.mono hD.size)
    have BX5 := BX2.below hb5 BX2.lt
    have BR5 := BR2.below hb5 BR2.lt
    have k4 := (BX5.cell 7).trans hc7
    have z4 := BX5.frozen 7
    clear KS r2 onex oney
    go_wp2_with fail
    refine NoPanic.normal ?_
    go_upto_region 48 with fail
    have hHD : W.heap.size < wD.heap.size := by have := hD.size; omega
    have hHD2 : W.heap.size + 1 < wD.heap.size := by have := hD.size; omega
    have own8 := own_far hown9 (p := ⟨W.heap.size, 7, none⟩) hHD (.slice (some ⟨g9, 0, none⟩) (x.ents.length + 1) c9)
    have BX8 := BX5.set_ 7 (.slice (some ⟨g9, 0, none⟩) (x.ents.length + 1) c9)
    have BR8 := BR5.far (p := ⟨W.heap.size, 7, none⟩) (by simp) (.slice (some ⟨g9, 0, none⟩) (x.ents.length + 1) c9)
    have hb8 := bSet (p := ⟨W.heap.size, 7, none⟩) (hb2.trans (hb5.mono hb2.size)) (Nat.le_refl _) (.slice (some ⟨g9, 0, none⟩) (x.ents.length + 1) c9)
    generalize w5.setCell ⟨W.heap.size, 7, none⟩ (.slice (some ⟨g9, 0, none⟩) (x.ents.length + 1) c9) = w8 at *
    rw [(hset7.out g9 c9 a0 a1 a2 a3 a4 a5 a6 a7)] at BX8
    have hYs : (WS.cl { s with ae := some ⟨g9, 0, none⟩, ce := c9 } (addR x (8, [a0, a1, a2, a3, a4, a5, a6, a7]))).toArray.size = 43 := wsCl_size hsd
    have hY1 : ∀ v ∈ (WS.cl { s with ae := some ⟨g9, 0, none⟩, ce := c9 } (addR x (8, [a0, a1, a2, a3, a4, a5, a6, a7]))).toArray.toList, v.oneCell' = true := ws_cell
    have hyes2 : Hid (∀ Y w', Hid ((WS.cl { s with ae := some ⟨g9, 0, none⟩, ce := c9 } (addR x (8, [a0, a1, a2, a3, a4, a5, a6, a7]))).toArray = Y) → Below W.heap.size W w' → World.ownsRow w' wD.heap.size 67 8 (.slice (some ⟨g9, 0, none⟩) (x.ents.length + 1) c9) (x.ents.length + 1) (x.ents.flatMap Ent.cl ++ [.int .i64 a0, .int .i64 a1, .int .i64 a2, .int .i64 a3, .int .i64 a4, .int .i64 a5, .int .i64 a6, .int .i64 a7]) → LineR N0 o W (.returned (.tuple #[.agg Y, .bool true])) w') := Lib.hid (fun Y w' hY bb hw => by
      have h := (hk.out.below bb).more bb.size
      have rd9 := rd_ownN hw
      rw [← hY.out]
      exact LineR.yes hyes.out bb ⟨h.rl, h.rb, h.rg, h.rt, h.ro, h.lo, ⟨(by show Rd _ _ 8 _ (x.ents ++ [_]).length ((x.ents ++ [_]).flatMap Ent.cl); rw [List.length_append]; rw [List.flatMap_append]; exact rd9), Low.of hg9N⟩, h.rs, h.rf⟩ hsd hsb)
    obtain ⟨Y, hY⟩ : ∃ Y, Hid ((WS.cl { s with ae := some ⟨g9, 0, none⟩, ce := c9 } (addR x (8, [a0, a1, a2, a3, a4, a5, a6, a7]))).toArray = Y) := ⟨_, Lib.hid rfl⟩
    rw [hY.out] at BX8 hYs hY1
    apply wp_region_lit
    refine wpList_loadG (by rfl) (by rfl) (by rfl) (load_blk BX8 Tryz.underlying35 rfl (by rw [hYs]; exact world_info)) ?_
    simp only [Act.put]
    refine wpList_storeG (by rfl) (by rfl) (by rfl) (by rfl) (store_whole BR8 (by rw [hYs]; exact world_info) (by rw [hZs, hYs]) hY1) ?_
    simp only [Act.put]
    have b9 := below_setRowP hb8 (Nat.le_succ W.heap.size) Y
    have B9 := BR8.row Y
    have ownF := own_farRow own8 hHD2 Y
    go_wp2_with fail
    exact line_leaves rfl rfl rfl hYs B9 (hyes2.out Y _ hY b9 ownF) rfl
end Go.Proofs.YtmbopkcmbiommaaGreatDoor
