/- the reader of the first line; walked. -/
import Derived.Test.YtmbopkcmbiommaaGreatDoorRbb
import Derived.Test.YtmbopkcmbiommaaGreatDoorRal
import Derived.StringKeys
set_option maxRecDepth 1000000
set_option maxHeartbeats 16000000
namespace Go.Proofs.YtmbopkcmbiommaaGreatDoor
open Go Go.RowKit
theorem pair_at {s : ByteArray} {k : Nat} {u0 u1 : UInt8} (h : 2 * k + 1 < s.size) (h0 : u0 = s[2 * k]'(by omega)) (h1 : u1 = s[2 * k + 1]'(by omega)) : pairV s.data.toList k = match hexV u0, hexV u1 with | some x, some y => some (16 * x + y) | _, _ => none := by
  have hs : s.data.toList.length = s.size := by rw [Array.length_toList]; rfl
  unfold pairV
  rw [List.getElem?_eq_getElem (by omega), List.getElem?_eq_getElem (by omega)]
  subst h0; subst h1
  rfl
theorem seed_cell {w : World} {R k : Nat} {T : TypeId} {s : WS} {x : Wld} {last : ByteArray} (h : Blk w R T (s.cl x ++ [Value.string last]).toArray) (hk : k < x.seed.length) : w.cell? ⟨R, 10 + k, none⟩ = some (.int .u8 (x.seed[k] : Nat)) := by
  rw [h.cell, List.getElem?_toArray, ws_split, List.getElem?_append_right (by simp)]
  simp only [List.length_cons, List.length_nil]
  rw [show 10 + k - (0 + 1 + 1 + 1 + 1 + 1 + 1 + 1 + 1 + 1 + 1) = k by omega, List.getElem?_append_left (by rw [byts_length]; exact hk)]
  exact byts_at (List.getElem?_eq_getElem hk)
theorem pairV_lt {s : By} {k u : Nat} (h : pairV s k = some u) : u < 256 := by
  unfold pairV at h
  split at h
  · split at h
    · rename_i x y hx hy
      have := hexV_lt hx
      have := hexV_lt hy
      injection h
      omega
    · cases h
  · cases h
theorem or_all : (List.range 16).all (fun p => (List.range 16).all (fun r => decide (bits BinOp.or IntKind.i64 ((p : Nat) * 16 : Int) (r : Nat) % 256 = ((16 * p + r : Nat) : Int)))) = true := by kernel_rfl
theorem or_pair {p r : Nat} (hp : p < 16) (hr : r < 16) : bits BinOp.or IntKind.i64 ((p : Int) * 16) (r : Int) % 256 = ((16 * p + r : Nat) : Int) :=
  of_decide_eq_true (List.all_eq_true.1 (List.all_eq_true.1 or_all p (List.mem_range.2 hp)) r (List.mem_range.2 hr))
theorem KeepT.trans {o : Nat → Nat} {t : Nat} {w w1 w2 : World} (h : KeepT o t w w1) (k : KeepT o t w1 w2) : KeepT o t w w2 :=
  ⟨Nat.le_trans h.1 k.1, fun g hg ht => (k.2.1 g (Nat.lt_of_lt_of_le hg h.1) ht).trans (h.2.1 g hg ht), h.2.2.trans k.2.2⟩
theorem seed_set {s : WS} {x : Wld} {last : ByteArray} {D S : List Nat} {k v : Nat} (hD : D.length = k) (hk : k < S.length) : (s.cl { x with seed := D ++ S.drop k } ++ [Value.string last]).toArray.setIfInBounds (10 + k) (.int .u8 (v : Int)) = (s.cl { x with seed := (D ++ [v]) ++ S.drop (k + 1) } ++ [Value.string last]).toArray := by
  rw [List.setIfInBounds_toArray]
  refine congrArg List.toArray ?_
  rw [ws_split, ws_split, List.set_append_right _ _ (by simp)]
  refine congrArg (HAppend.hAppend _) ?_
  simp only [List.length_cons, List.length_nil]
  rw [show 10 + k - (0 + 1 + 1 + 1 + 1 + 1 + 1 + 1 + 1 + 1 + 1) = k by omega, List.set_append_left _ _ (by rw [byts_length]; simp; omega)]
  refine congrArg (fun z : List Value => z ++ _) ?_
  subst hD
  unfold byts
  rw [List.drop_eq_getElem_cons hk, List.map_append, List.map_append, List.map_append, List.set_append_right _ _ (by simp), List.length_map, Nat.sub_self, List.map_cons, List.set_cons_zero, List.append_assoc]
  rfl
theorem index_hex (c : UInt8) (w : World) : Calls Tryz.prog 86 #[.string ⟨#[48, 49, 50, 51, 52, 53, 54, 55, 56, 57, 97, 98, 99, 100, 101, 102]⟩, .int .u8 (c.toNat : Nat)] w (Same (.int .i64 (hexI c)) w) := by
  have := index_byte ⟨#[48, 49, 50, 51, 52, 53, 54, 55, 56, 57, 97, 98, 99, 100, 101, 102]⟩ (c.toNat : Nat) w
  have e : ((c.toNat : Nat) : Int).toNat.toUInt8 = c := by simp
  rw [e] at this
  rw [← hexI_eq]
  exact this
theorem rd_world (R base m : Nat) (o : Nat → Nat) (q : RS) (x : Wld) (last : ByteArray) (A : Option Addr) (c : Nat) (l : List ByteArray) (W : World) (h : StAt W R base m o q x last) (hA : Rd W W.heap.size 1 A l.length (strs l)) (hAR : ∀ p : Addr, A = some p → p.block ≠ R) (hcap : l.length ≤ c) (hl : ∀ s ∈ l, s.size ≤ 1000000) (hG : LibG base W) :
    Calls Tryz.prog 90 #[.pointer (some ⟨R, 0, none⟩), .slice A l.length c] W (RdPost (readR x 1 (bys l)) o R base m last W) := by
  have hbs : base ≤ W.heap.size := Nat.le_trans h.bR (Nat.le_of_lt h.blk.lt)
  obtain ⟨ox, hox⟩ : ∃ ox, Hid (readR x 1 (bys l) = ox) := ⟨_, Lib.hid rfl⟩
  have h2 := world_cases x l ox hox
  rw [hox.out]
  clear hox
  rcases h2 with ⟨e1, e2⟩ | ⟨s0, s1, s2, s3, rfl, h2⟩
  · go_enter Tryz.func90, Tryz.ntmps90
    go_upto_region 1 with (go_at_call 55; (with_reducible refine (want_no _).mono ?_); rintro e w3 ⟨h9, rfl⟩; unfold PanW at h9; subst h9)
    exact ⟨rfl, RdPost.no e2.out (bRefl W) hbs⟩
  · have hA : Rd W W.heap.size 1 A 4 (strs [s0, s1, s2, s3]) := hA
    have hcap : 4 ≤ c := hcap
    show Calls _ _ #[.pointer (some ⟨R, 0, none⟩), .slice A 4 c] _ _
    obtain ⟨lb, off, rfl, hlb, hc⟩ := hA.2 (by decide)
    have c3 : W.cell? ⟨lb, off + 3, none⟩ = some (.string s3) := hc 3 _ rfl
    have hne : lb ≠ R := hAR _ rfl
    have hA3 : Rd W W.heap.size 1 (some ⟨lb, off, none⟩) 3 (strs [s0, s1, s2]) := ⟨rfl, fun _ => ⟨lb, off, rfl, hlb, fun j u hu => hc j u (by
      match j, hu with
      | 0, hu => exact hu
      | 1, hu => exact hu
      | 2, hu => exact hu
      | j + 3, hu => simp [strs] at hu)⟩⟩
    have q1 : Hid (Calls Tryz.prog 91 #[.slice (some ⟨lb, off, none⟩) 3 c, .int .i64 3] W (NumsPost (numsV (bys [s0, s1, s2]) 3) W)) := Lib.hid (rep_numbers base (some ⟨lb, off, none⟩) c [s0, s1, s2] 3 W hA3 (fun s hs => hl s (by simp at hs ⊢; rcases hs with h | h | h <;> simp [h])) (by simp) hG hbs)
    clear hc
    go_enter Tryz.func90, Tryz.ntmps90
    rcases h2 with ⟨h64, e2⟩ | ⟨h64, ⟨e1, e2⟩ | ⟨a, b, d, e1, e2⟩⟩
    · go_upto_region 1 with (go_at_call 55; (with_reducible refine (want_no _).mono ?_); rintro e w3 ⟨h9, rfl⟩; unfold PanW at h9; subst h9)
      exact ⟨rfl, RdPost.no e2.out (bRefl W) hbs⟩
    · rw [e1] at q1
      go_upto_region 2 with (first | (go_at_call 55; (with_reducible refine (want_yes _).mono ?_); rintro e w3 ⟨rfl, rfl⟩) | (go_at_call 91; (with_reducible refine q1.out.mono ?_); rintro e w2 ⟨h9, b2⟩; (simp only at h9; unfold PanW at h9; subst h9)))
      exact ⟨rfl, RdPost.no e2.out b2 hbs⟩
    · rw [e1] at q1
      have hsz : s3.size = 64 := by have := eq_of_beq h64; omega
      clear h64
      go_upto_region 2 with (first | (go_at_call 55; (with_reducible refine (want_yes _).mono ?_); rintro e w3 ⟨rfl, rfl⟩) | (go_at_call 91; (with_reducible refine q1.out.mono ?_); rintro e w1 ⟨⟨vn, h9, hv⟩, b1⟩; subst h9))
      have hv : w1.ownsRow W.heap.size 3 1 vn 3 (ints [a, b, d]) := hv
      obtain ⟨g, cap, rfl⟩ := own_two hv (by decide)
      obtain ⟨-, hg0, cur, BG, -, -, -, htk⟩ := OwnAt.parts hv
      have h1 := h.later b1 (upd_agree o W.heap.size 0) (Nat.le_succ m)
      have d0 : cur[0]? = some (.int .i64 a) := by rw [← BG.cell]; exact own_cell hv rfl
      have d1 : cur[1]? = some (.int .i64 b) := by rw [← BG.cell]; exact own_cell hv rfl
      have d2 : cur[2]? = some (.int .i64 d) := by rw [← BG.cell]; exact own_cell hv rfl
      have BR := h1.blk
      have KS : Hid (∀ w', Blk w' R 87 (q.ws.cl x ++ [Value.string last]).toArray → Blk w' g 3 cur → w'.cell? ⟨g, 0, none⟩ = some (.int .i64 a) ∧ w'.cell? ⟨g, 1, none⟩ = some (.int .i64 b) ∧ w'.cell? ⟨g, 2, none⟩ = some (.int .i64 d)) :=
        Lib.hid (fun w' u1 u2 => ⟨by rw [u2.cell]; exact d0, by rw [u2.cell]; exact d1, by rw [u2.cell]; exact d2⟩)
      have BR0 : Blk w1.drew R 87 (q.ws.cl x ++ [Value.string last]).toArray := BR
      have BG0 : Blk w1.drew g 3 cur := BG
      clear d0 d1 d2 htk
      refine wp_region_schK (f := 15) KS [(0, 1), (1, 1), (2, 1), (3, 1), (4, 1), (5, 2), (6, 1), (7, 1), (8, 2), (9, 1), (10, 1), (11, 2), (12, 1), (13, 1), (14, 1), (15, 3), (16, 3), (17, 3), (18, 3), (19, 3), (20, 3), (21, 3), (22, 3), (23, 3), (24, 3)] ?_
      simp only [pickS, List.getElem?_cons_zero, List.getElem?_cons_succ]
      refine wpSched_t ?_
      refine wpSched_t ?_
      refine wpSched_t ?_
      refine wpSched_t ?_
      refine wpSched_t ?_
      refine wpSched_r ?_
      refine wpSched_t ?_
      refine wpSched_t ?_
      refine wpSched_r ?_
      refine wpSched_t ?_
      refine wpSched_t ?_
      refine wpSched_r ?_
      refine wpSched_t ?_
      refine wpSched_t ?_
      refine wpSched_t ?_
      refine wpSched_last ?_
      first | simp only [List.map_nil] | simp only [List.map_cons, List.map_nil]
      clear KS
      have r6 : w1.cell? ⟨R, 6, none⟩ = some (.int .i64 x.people) := by rw [BR.cell, List.getElem?_toArray]; rfl
      have BR1 := BR.set_ 6 (.int .i64 a)
      have BR2 := BR1.set_ 8 (.int .i64 b)
      have BR3 := BR2.set_ 0 (.int .i64 d)
      have r8 : (w1.setCell ⟨R, 6, none⟩ (.int .i64 a)).cell? ⟨R, 8, none⟩ = some (.int .i64 x.covers) := by rw [BR1.cell, List.setIfInBounds_toArray, List.getElem?_toArray]; rfl
      have r0 : ((w1.setCell ⟨R, 6, none⟩ (.int .i64 a)).setCell ⟨R, 8, none⟩ (.int .i64 b)).cell? ⟨R, 0, none⟩ = some (.int .i64 x.offs) := by rw [BR2.cell, List.setIfInBounds_toArray, List.setIfInBounds_toArray, List.getElem?_toArray]; rfl
      have z6 := BR.frozen 6
      have z8 := BR1.frozen 8
      have z0 := BR2.frozen 0
      have BR3 := Lib.hid BR3
      clear BR1 BR2 BR0
      go_wp2_with fail
      refine NoPanic.normal ?_
      have hw4 : Hid (∃ w4, w4 = (((w1.setCell ⟨R, 6, none⟩ (.int .i64 a)).setCell ⟨R, 8, none⟩ (.int .i64 b)).setCell ⟨R, 0, none⟩ (.int .i64 d)).drew) := Lib.hid ⟨_, rfl⟩
      obtain ⟨w4, hw4⟩ := hw4.out
      rw [← hw4]
      go_wp2_with fail
      obtain ⟨x4, hx4⟩ : ∃ x4, x4 = ({ x with people := a, covers := b, offs := d } : Wld) := ⟨_, rfl⟩
      have BW : Hid (Blk w4 R 87 (q.ws.cl x4 ++ [Value.string last]).toArray) := Lib.hid (by
        have := BR3.out
        rw [hw4, hx4]
        have e : ((((q.ws.cl x ++ [Value.string last]).toArray.setIfInBounds 6 (.int .i64 a)).setIfInBounds 8 (.int .i64 b)).setIfInBounds 0 (.int .i64 d)) = (q.ws.cl ({ x with people := a, covers := b, offs := d } : Wld) ++ [Value.string last]).toArray := by
          rw [List.setIfInBounds_toArray, List.setIfInBounds_toArray, List.setIfInBounds_toArray]
          refine congrArg List.toArray ?_
          simp [WS.cl]
        rw [← e]
        exact this)
      obtain ⟨o1, ho1⟩ : ∃ o1, o1 = updT o W.heap.size 0 := ⟨_, rfl⟩
      rw [← ho1] at h1
      have K1 : Hid (KeepT o1 9 w1 w4) := Lib.hid (by
        have r := h1.oR
        rw [hw4]
        refine ⟨by simp [World.setCell, World.drew], fun g' hg hne => ?_, ((KeepsOthers.setCell _ _ _).trans (KeepsOthers.setCell _ _ _)).trans ((KeepsOthers.setCell _ _ _).trans (others_below (bDr (bRefl _))))⟩
        have hgR : g' ≠ R := fun e => hne (by rw [e, r])
        show (((w1.setCell ⟨R, 6, none⟩ _).setCell ⟨R, 8, none⟩ _).setCell ⟨R, 0, none⟩ _).heap[g']? = _
        rw [Below.heap_setCell _ _ _ _ hgR, Below.heap_setCell _ _ _ _ hgR, Below.heap_setCell _ _ _ _ hgR])
      have K2 : Hid (KeepT (fun g => if g = R then 9 else 0) 9 w1 w4) := Lib.hid (by
        rw [hw4]
        refine ⟨by simp [World.setCell, World.drew], fun g' hg hne => ?_, ((KeepsOthers.setCell _ _ _).trans (KeepsOthers.setCell _ _ _)).trans ((KeepsOthers.setCell _ _ _).trans (others_below (bDr (bRefl _))))⟩
        have hgR : g' ≠ R := fun e => hne (if_pos e)
        show (((w1.setCell ⟨R, 6, none⟩ _).setCell ⟨R, 8, none⟩ _).setCell ⟨R, 0, none⟩ _).heap[g']? = _
        rw [Below.heap_setCell _ _ _ _ hgR, Below.heap_setCell _ _ _ _ hgR, Below.heap_setCell _ _ _ _ hgR])
      have bw4 : Hid (Below base W w4) := Lib.hid (by
        rw [hw4]
        exact ((((b1.mono hbs).setCell (p := ⟨R, 6, none⟩) h.bR _).setCell (p := ⟨R, 8, none⟩) h.bR _).setCell (p := ⟨R, 0, none⟩) h.bR _).drew)
      have c31 : w1.cell? ⟨lb, off + 3, none⟩ = some (.string s3) := (b1.cell (p := ⟨lb, off + 3, none⟩) hlb).trans c3
      have hlb1 : lb < w1.heap.size := Nat.lt_of_lt_of_le hlb b1.size
      clear r6 r8 r0 z6 z8 z0 BR3 hw4 c3 hA3 q1 e1
      go_loopw [44] (fun i wr => ∃ (k : Nat) (D : List Nat), k ≤ 32 ∧ i = .int .i64 k ∧ D.length = k ∧ Hid (∀ (j u : Nat), D[j]? = some u → pairV s3.data.toList j = some u) ∧ Hid (Blk wr R 87 (q.ws.cl { x4 with seed := D ++ x.seed.drop k } ++ [Value.string last]).toArray) ∧ Hid (KeepT o1 9 w1 wr) ∧ Hid (KeepT (fun g => if g = R then 9 else 0) 9 w1 wr) ∧ Hid (Below base W wr)) (fun i _ => 32 - (intOf i).toNat)
      case atStart => exact ⟨0, [], by omega, rfl, rfl, Lib.hid (fun j u hu => by simp at hu), Lib.hid (by have := BW.out; rw [hx4] at this ⊢; exact this), K1, K2, bw4⟩
      case round =>
        obtain ⟨k, D, hk, rfl, hD, hP, BK, K3, K4, bk⟩ := hrel
        by_cases hlt : k < 32
        · have ck : wr.cell? ⟨lb, off + 3, none⟩ = some (.string s3) := by
            rw [← c31]
            unfold World.cell?
            simp only [K4.out.2.1 lb hlb1 (by simp [hne])]
          have KS : Hid (∀ w', Below wr.heap.size wr w' → w'.cell? ⟨lb, off + 3, none⟩ = some (.string s3)) := Lib.hid (fun w' bb => (bb.cell (p := ⟨lb, off + 3, none⟩) (World.block_lt_of_cell? _ _ ck)).trans ck)
          have i1 : (k : Int) < 32 := by omega
          have m0 : IntKind.i64.wrap (2 * (k : Int)) = 2 * (k : Int) := by rw [IntKind.wrap_i64]; omega
          have m1 : IntKind.i64.wrap (2 * (k : Int) + 1) = 2 * (k : Int) + 1 := by rw [IntKind.wrap_i64]; omega
          have m2 : (0 : Int) ≤ 2 * (k : Int) ∧ 2 * (k : Int) < 64 := by omega
          have m3 : (0 : Int) ≤ 2 * (k : Int) + 1 ∧ 2 * (k : Int) + 1 < 64 := by omega
          have m4 : (2 * (k : Int)).toNat = 2 * k := by omega
          have m5 : (2 * (k : Int) + 1).toNat = 2 * k + 1 := by omega
          obtain ⟨u0, hu0⟩ : ∃ u0, s3[2 * k]'(by omega) = u0 := ⟨_, rfl⟩
          obtain ⟨u1, hu1⟩ : ∃ u1, s3[2 * k + 1]'(by omega) = u1 := ⟨_, rfl⟩
          have hu2 : Hid (pairV s3.data.toList k = match hexV u0, hexV u1 with | some x, some y => some (16 * x + y) | _, _ => none) := Lib.hid (pair_at (by omega) hu0.symm hu1.symm)
          go_upto_region 6 with fail
          refine wp_region_schB (f := 15) KS [(0, 1), (1, 1), (2, 2), (3, 1), (4, 1), (5, 1), (7, 1), (8, 1), (9, 2), (10, 1), (11, 1), (12, 1), (13, 1), (6, 0), (14, 0), (15, 3), (16, 3)] ?_
          simp only [pickS, List.getElem?_cons_zero, List.getElem?_cons_succ]
          refine wpSched_t ?_
          refine wpSched_t ?_
          refine wpSched_r ?_
          refine wpSched_t ?_
          refine wpSched_t ?_
          refine wpSched_t ?_
          refine wpSched_t ?_
          refine wpSched_t ?_
          refine wpSched_r ?_
          refine wpSched_t ?_
          refine wpSched_t ?_
          refine wpSched_t ?_
          refine wpSched_t ?_
          refine wpSched_force (fun K hK => ?_)
          go_simp; (first | (go_at_call 86; (with_reducible refine (index_hex _ _).mono ?_); rintro e w6 ⟨rfl, rfl⟩) | skip)
          refine shut_go hK KS ?_
          clear hK K
          refine wpSched_force (fun K hK => ?_)
          go_simp; (first | (go_at_call 86; (with_reducible refine (index_hex _ _).mono ?_); rintro e w6 ⟨rfl, rfl⟩) | skip)
          refine shut_go hK KS ?_
          clear hK K
          refine wpSched_last ?_
          first | simp only [List.map_nil] | simp only [List.map_cons, List.map_nil]
          clear KS
          go_wp2_with fail
          refine NoPanic.normal ?_
          clear hu0 hu1
          have bad : pairV s3.data.toList k = none → Hid (ox = none) := fun hn => Lib.hid (by rw [e2.out, pairs_none s3.data.toList k (by rw [Array.length_toList]; show 2 * k + 1 < s3.size; omega) hn]; rfl)
          cases hv0 : hexV u0 with
          | none =>
            have e0 : hexI u0 = -1 := by unfold hexI; rw [hv0]
            have hbad := bad (by rw [hu2.out, hv0])
            clear bad hv0 hu2
            go_wp2_with (go_at_call 55; (with_reducible refine (want_no _).mono ?_); rintro e w3 ⟨h9, rfl⟩; unfold PanW at h9; subst h9)
            exact ⟨rfl, RdPost.noK hbad.out ⟨fun g' hg' hR _ => (K4.out.2.1 g' (Nat.lt_of_lt_of_le hg' b1.size) (by simp [hR])).trans (b1.block g' hg'), ((others_below b1).trans K4.out.2.2).trans (others_below (bDr (bRefl _)))⟩ bk.out.drew⟩
          | some p =>
            cases hv1 : hexV u1 with
            | none =>
              have e0 : hexI u0 = (p : Int) := by unfold hexI; rw [hv0]
              have e1 : hexI u1 = -1 := by unfold hexI; rw [hv1]
              have hbad := bad (by rw [hu2.out, hv0, hv1])
              clear bad hv0 hv1 hu2
              go_wp2_with (go_at_call 55; (with_reducible refine (want_no _).mono ?_); rintro e w3 ⟨h9, rfl⟩; unfold PanW at h9; subst h9)
              exact ⟨rfl, RdPost.noK hbad.out ⟨fun g' hg' hR _ => (K4.out.2.1 g' (Nat.lt_of_lt_of_le hg' b1.size) (by simp [hR])).trans (b1.block g' hg'), ((others_below b1).trans K4.out.2.2).trans (others_below (bDr (bRefl _)))⟩ bk.out.drew⟩
            | some r =>
              have e0 : hexI u0 = (p : Int) := by unfold hexI; rw [hv0]
              have e1 : hexI u1 = (r : Int) := by unfold hexI; rw [hv1]
              have lp := hexV_lt hv0
              have lr := hexV_lt hv1
              have hP2 : Hid (pairV s3.data.toList k = some (16 * p + r)) := Lib.hid (by rw [hu2.out, hv0, hv1])
              clear bad hv0 hv1 hu2
              go_upto_region 8 with (go_at_call 55; (with_reducible refine (want_yes _).mono ?_); rintro e w3 ⟨rfl, rfl⟩)
              obtain ⟨uo, huo⟩ : ∃ uo, wr.cell? ⟨R, 10 + k, none⟩ = some uo := ⟨_, seed_cell BK.out (by simp [hD, h.sd]; omega)⟩
              have fz := BK.out.frozen (10 + k)
              have hbt := or_pair lp lr
              have hset := Lib.hid ((BK.out.set_ (10 + k) (.int .u8 ((16 * p + r : Nat) : Int))))
              have K5 := Lib.hid ((K3.out.trans (KeepT.of_below (bDr (bRefl wr)) o1 9)).trans (KeepT.of_set (w := wr.drew) h1.oR (10 + k) (.int .u8 ((16 * p + r : Nat) : Int))))
              have K6 := Lib.hid ((K4.out.trans (KeepT.of_below (bDr (bRefl wr)) _ 9)).trans (KeepT.of_set (R := R) (o := fun g => if g = R then 9 else 0) (t := 9) (w := wr.drew) (if_pos rfl) (10 + k) (.int .u8 ((16 * p + r : Nat) : Int))))
              have bk2 := Lib.hid ((bk.out.setCell (p := ⟨R, 10 + k, none⟩) h.bR (.int .u8 ((16 * p + r : Nat) : Int))).drew)
              go_wp2_with fail
              refine ⟨⟨k + 1, D ++ [16 * p + r], by omega, by go_num, by simp [hD], Lib.hid (fun j u hu => ?_), Lib.hid ?_, K5, K6, bk2⟩, by simp [intOf]; omega⟩
              · by_cases hj : j < k
                · exact hP.out j u (by rwa [List.getElem?_append_left (by omega)] at hu)
                · have hj2 : j = k := by have := (List.getElem?_eq_some_iff.1 hu).1; simp at this; omega
                  subst hj2
                  rw [List.getElem?_append_right (by omega), hD, Nat.sub_self] at hu
                  simp at hu
                  subst hu
                  exact hP2.out
              · have := hset.out
                rw [seed_set hD (by rw [h.sd]; exact hlt)] at this
                exact this
        · obtain rfl : k = 32 := by omega
          have e3 : Hid (ox = some { x with people := a, covers := b, offs := d, seed := D }) := Lib.hid (by
            rw [e2.out, pairs_ok D s3.data.toList (by rw [Array.length_toList, hD]; exact hsz) hP.out]
            rfl)
          have hfin : Hid (StAt wr R base (m + 1) o1 q { x with people := a, covers := b, offs := d, seed := D } last) := Lib.hid (by
            refine ⟨?_, h1.oR, h.bR, hD, fun u hu => ?_, (h1.ra.keep K3.out rfl (fun _ _ => rfl) (Nat.le_refl _)).same rfl rfl rfl rfl rfl⟩
            · have := BK.out
              rw [List.drop_of_length_le (by rw [h.sd]; exact Nat.le_refl _), List.append_nil, hx4] at this
              exact this
            · obtain ⟨j, hj⟩ := List.getElem?_of_mem hu
              exact pairV_lt (hP.out j u hj))
          clear hsz
          go_wp2_with fail
          go_end0
          exact RdPost.yes e3.out hfin.out bk.out ⟨fun g' hg' hR _ => (K4.out.2.1 g' (Nat.lt_of_lt_of_le hg' b1.size) (by simp [hR])).trans (b1.block g' hg'), (others_below b1).trans K4.out.2.2⟩ (by rw [ho1]; exact upd_agree o W.heap.size 0)
end Go.Proofs.YtmbopkcmbiommaaGreatDoor
namespace Go.Proofs.YtmbopkcmbiommaaGreatDoor
open Go Go.RowKit Go.Maps Go.WideMaps
structure SM (P : Program) (k : TypeId) (m : Nat) (W w : World) (b n : Nat) (s : By → Option Value) : Prop where
  mp : ∃ D : DataW Value, w.ownsMap P k heldR b n D ∧ IsMap D ∧ ∀ i : By, ∀ z, D.atKey (.string i) (.held z) = .held ((s i).getD z)
  bl : Below m W w
  old : m ≤ b
section
variable {P : Program} {k e t : TypeId} {W w w' : World} {b n m : Nat} {s : By → Option Value}
theorem SM.made (w : World) (P : Program) (k : TypeId) : SM P k w.heap.size w (w.alloc (.map #[] 0)) w.heap.size 0 (fun _ => none) :=
  ⟨⟨.map [], World.ownsMap_made w P k _, isMap_empty, fun _ _ => rfl⟩, bAl (bRefl w) _, Nat.le_refl _⟩
theorem SM.look (h : SM P k m W w b n s) (hk : P.underlying k = some .string) (ht : P.underlying t = some (.map k e)) {z : Value} (hz : (zeroValue e).run P w = .ok z w)
    {i : ByteArray} (hi : i.size ≤ maxLen) : (Instr.lookup t (.map (some b)) (.string i) false).run P w = .ok ((s i.data.toList).getD z) w := by
  obtain ⟨D, h1, _, h3⟩ := h.mp
  obtain ⟨v, ps, hrun, hv⟩ := h1.lookup (string_keyed hk) ht hz (zd := .held z) rfl (keyOf_string_mk hk hi)
  rw [h3 i.data.toList] at hv
  rw [hrun]
  have : v = (s i.data.toList).getD z := by
    have h4 : (some (DataW.held v, ([] : List MemPlace))) = some (DataW.held ((s i.data.toList).getD z), ps) := hv
    injection h4 with h4
    injection h4 with h4
    injection h4
  rw [this]
theorem SM.store (h : SM P k m W w b n s) (hk : P.underlying k = some .string) (ht : P.underlying t = some (.map k e)) (hn : n < 1000000) (i : ByteArray) (v : Value) (hi : i.size ≤ maxLen) :
    ∃ w', (Instr.mapUpdate t (.map (some b)) (.string i) v).run P w = .ok () w' ∧ SM P k m W w' b (n + 1) (fun j => if j = i.data.toList then some v else s j) := by
  obtain ⟨D, h1, h2, h3⟩ := h.mp
  obtain ⟨w', r1, r2, r3⟩ := h1.update (string_keyed hk) ht (by unfold maxLen; omega) (keyOf_string_mk hk hi) (val := v) (d := .held v) (ps := []) rfl
  refine ⟨w', r1, ⟨_, r2, h2.put _ _, fun j z => ?_⟩, h.bl.grown r3 (by have := h.bl.size; have := h.old; have := h1.lt; omega) (fun q e => by cases e; exact h.old), h.old⟩
  by_cases hj : j = i.data.toList
  · subst hj
    rw [atKey_put_same h2 (k := .string i.data.toList) (by exact trivial)]; simp
  · rw [atKey_put_other (by intro h; injection h with h; exact hj h), h3 j]; simp [hj]
theorem wpList_insert_s {ops : Array Oper} {rest : List Oper} {o : Oper} {a : Act} {Q : Exit → Act → World → Prop}
    (hg : o.guard = none) (mo x v : Operand) (t : TypeId) (hop : o.op = Op.insert t mo x v) (h : SM P k m W w b n s) (hk : P.underlying k = some .string) (ht : P.underlying t = some (.map k e))
    (hm : a.eval mo = .map (some b)) (hn : n < 1000000) (i : ByteArray) (y : Value) (hx : a.eval x = .string i) (hv : a.eval v = y) (hi : i.size ≤ maxLen)
    (hK : ∀ w', SM P k m W w' b (n + 1) (fun j => if j = i.data.toList then some y else s j) → wpList P ops Q rest (a.put o.dst undef) w') :
    wpList P ops Q (o :: rest) a w := by
  refine wpList_plain hg fun K' hK' => ?_
  obtain ⟨w', hrun, r1⟩ := h.store hk ht hn i y hi
  unfold Oper.wp
  simp [execOp, hop, hm, hx, hv, hrun, Result.andThen]
  exact hK' _ _ (hK w' r1)
end
def fnV (f : FuncId) : Value := .func (.func f) #[] #[]
def readerS (i : By) : Option Value := if i = wordN 10 then some (fnV 101) else if i = wordN 9 then some (fnV 100) else if i = wordN 8 then some (fnV 99) else if i = wordN 7 then some (fnV 98) else if i = wordN 6 then some (fnV 97) else if i = wordN 5 then some (fnV 95) else if i = wordN 4 then some (fnV 94) else if i = wordN 3 then some (fnV 93) else if i = wordN 2 then some (fnV 92) else if i = wordN 1 then some (fnV 90) else none
theorem rep_readers (W : World) : Calls Tryz.prog 57 #[] W (fun r w' => ∃ b, r = .returned (.map (some b)) ∧ Below W.heap.size W w' ∧ ∃ n, SM Tryz.prog 9 W.heap.size W w' b n readerS) := by
  have hmm := @run_makeMap Tryz.prog
  go_enter Tryz.func57, Tryz.ntmps57
  go_wp2_with (refine wpList_insert_s rfl _ _ _ 134 rfl (by first | assumption | exact SM.made W _ _) Tryz.underlying9 Tryz.underlying134 rfl (by omega) _ _ rfl rfl (by decide) ?_; intro w5 hm)
  go_ret
  exact ⟨_, rfl, hm.bl, _, hm⟩
end Go.Proofs.YtmbopkcmbiommaaGreatDoor
