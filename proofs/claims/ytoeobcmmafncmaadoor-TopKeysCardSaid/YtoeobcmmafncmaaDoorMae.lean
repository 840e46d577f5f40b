/-
  SHA-256: a block is absorbed, walked.
-/
import Derived.Test.YtoeobcmmafncmaaDoorMad
import Derived.IntWalk
import Derived.Laws.CopyOwn
import Derived.Test.YtoeobcmmafncmaaDoorMaa
namespace Go.Proofs.YtoeobcmmafncmaaDoor
open Go.RowKit

/-- A row of words that is filled from its beginning. -/
def fillW (ws : List Nat) : List Value := u32s (ws ++ List.replicate (64 - ws.length) 0)
theorem fillW_len {ws : List Nat} (h : ws.length ≤ 64) : (fillW ws).length = 64 := by simp [fillW, u32s_length]; omega
theorem fillW_set {ws : List Nat} (h : ws.length < 64) (x : Nat) : (fillW ws).set ws.length (.int .u32 x) = fillW (ws ++ [x]) := by
  have e : 64 - ws.length = (64 - (ws ++ [x]).length) + 1 := by simp; omega
  unfold fillW u32s
  rw [e, List.replicate_succ, List.map_append, List.set_append_right _ _ (by simp)]
  simp
theorem fillW_at {ws : List Nat} {k x : Nat} (h : ws[k]? = some x) : (fillW ws)[k]? = some (.int .u32 x) := by
  unfold fillW
  refine u32s_at ?_
  rw [List.getElem?_append_left (List.getElem?_eq_some_iff.1 h).1]; exact h
theorem fill_cell {w : World} {b : Nat} {t : TypeId} {ws : List Nat} {k x : Nat} (hB : Blk w b t (fillW ws).toArray) (h : ws[k]? = some x) : w.cell? ⟨b, k, none⟩ = some (.int .u32 x) := by
  rw [hB.cell]; simpa using fillW_at h

theorem fill_there {w : World} {b : Nat} {t : TypeId} {ws : List Nat} {k : Nat} (hB : Blk w b t (fillW ws).toArray) (h : ws.length ≤ 64) (hk : k < 64) : ∃ v, w.cell? ⟨b, k, none⟩ = some v := by
  rw [hB.cell]
  simp only [List.getElem?_toArray]
  exact ⟨_, List.getElem?_eq_getElem (by rw [fillW_len h]; exact hk)⟩
theorem Blk.fill {w : World} {b : Nat} {t : TypeId} {ws : List Nat} (hB : Blk w b t (fillW ws).toArray) (h : ws.length < 64) (k x : Nat) (hk : ws.length = k) : Blk (w.setCell ⟨b, k, none⟩ (.int .u32 x)) b t (fillW (ws ++ [x])).toArray := by
  subst hk
  have := hB.set_ ws.length (.int .u32 x)
  rw [List.setIfInBounds_toArray, fillW_set h] at this
  exact this
def ltU (ws : List Nat) : Prop := ∀ x ∈ ws, x < 4294967296

theorem Rd.cut' {w : World} {B sz n b off : Nat} {xs : List Value} (h : Rd w B sz (some ⟨b, off, none⟩) n xs) (k : Nat) (hk : k ≤ n) : Rd w B sz (some ⟨b, off + k * sz, none⟩) (n - k) (xs.drop (k * sz)) := h.cut k hk

theorem accB_word (l : List Nat) (t : Nat) : accB (l.drop (4 * t)) 4 = wordAt l t := by
  unfold wordAt wordN
  simp [accB]
theorem okB_drop {l : List Nat} (h : okB l) (k : Nat) : okB (l.drop k) := fun x hx => h x (List.mem_of_mem_drop hx)

theorem rotS (v : Nat) (k : Int) (w : World) (h1 : v < 4294967296) (hk : rotOk k = true) :
    Calls Tryd.prog 98 #[.int .u32 v, .int .i64 k] w fun e w'' => e = .returned (.int .u32 (rotN v (-k).toNat)) ∧ w'' = w := (rot_any v k w h1 hk).mono fun _ _ ⟨he, hw⟩ => ⟨he, hw.symm⟩
theorem words_lt {l : List Nat} (h : okB l) (n : Nat) : ltU (words l n) := by
  intro x hx
  obtain ⟨t, _, rfl⟩ := List.mem_map.1 hx
  rw [← accB_word]
  exact accB_lt (okB_drop h _) 4
theorem nextW_lt (z y s x : Nat) : nextW z y s x < 4294967296 := Nat.mod_lt _ (by decide)
theorem ltU_snoc {ws : List Nat} (h : ltU ws) {x : Nat} (hx : x < 4294967296) : ltU (ws ++ [x]) := by
  intro y hy
  rw [List.mem_append, List.mem_singleton] at hy
  rcases hy with hy | rfl
  · exact h y hy
  · exact hx

theorem div_lt {v d : Nat} (h : v < 4294967296) : v / d < 4294967296 := Nat.lt_of_le_of_lt (Nat.div_le_self _ _) h
theorem nextW_int (z y s x : Nat) (hy : y < 4294967296) (hx : x < 4294967296) :
    (((z : Int) + bits BinOp.xor IntKind.u32 (bits BinOp.xor IntKind.u32 (rotN y 7 : Nat) (rotN y 18 : Nat)) ((y : Int) / 8) + s + bits BinOp.xor IntKind.u32 (bits BinOp.xor IntKind.u32 (rotN x 17 : Nat) (rotN x 19 : Nat)) ((x : Int) / 1024)) % 4294967296) = ((nextW z y s x : Nat) : Int) := by
  have e1 : ((y : Int) / 8) = ((y / 8 : Nat) : Int) := by simp
  have e2 : ((x : Int) / 1024) = ((x / 1024 : Nat) : Int) := by simp
  rw [e1, e2, xor_nat _ _ (rotN_lt hy) (rotN_lt hy), xor_nat _ _ (rotN_lt hx) (rotN_lt hx), xor_nat _ _ (xor_lt (rotN_lt hy) (rotN_lt hy)) (div_lt hy), xor_nat _ _ (xor_lt (rotN_lt hx) (rotN_lt hx)) (div_lt hx)]
  unfold nextW
  omega
theorem grow_step {ws l : List Nat} {j x16 x15 x7 x2 : Nat} (h : ltU ws ∧ ws.length = j ∧ ws = schedW (words l 16) (j - 16)) (hj : 16 ≤ j) (h16 : ws[j - 16]? = some x16) (h15 : ws[j - 15]? = some x15) (h7 : ws[j - 7]? = some x7) (h2 : ws[j - 2]? = some x2) :
    ltU (ws ++ [nextW x16 x15 x7 x2]) ∧ (ws ++ [nextW x16 x15 x7 x2]).length = j + 1 ∧ ws ++ [nextW x16 x15 x7 x2] = schedW (words l 16) (j + 1 - 16) := by
  obtain ⟨hl, hn, he⟩ := h
  refine ⟨ltU_snoc hl (nextW_lt _ _ _ _), by simp [hn], ?_⟩
  rw [show j + 1 - 16 = (j - 16) + 1 by omega]
  show _ = growW (schedW (words l 16) (j - 16))
  rw [← he]
  unfold growW
  rw [hn, h16, h15, h7, h2]
  rfl

theorem st_cells {w : World} {b : Nat} {t : TypeId} {s : S8} (h : Blk w b t (u32s s.list).toArray) :
    w.cell? ⟨b, 0, none⟩ = some (.int .u32 s.a) ∧ w.cell? ⟨b, 1, none⟩ = some (.int .u32 s.b) ∧ w.cell? ⟨b, 2, none⟩ = some (.int .u32 s.c) ∧ w.cell? ⟨b, 3, none⟩ = some (.int .u32 s.d) ∧
    w.cell? ⟨b, 4, none⟩ = some (.int .u32 s.e) ∧ w.cell? ⟨b, 5, none⟩ = some (.int .u32 s.f) ∧ w.cell? ⟨b, 6, none⟩ = some (.int .u32 s.g) ∧ w.cell? ⟨b, 7, none⟩ = some (.int .u32 s.h) :=
  ⟨h.cell 0, h.cell 1, h.cell 2, h.cell 3, h.cell 4, h.cell 5, h.cell 6, h.cell 7⟩

theorem and_nat (a b : Nat) (ha : a < 4294967296) (hb : b < 4294967296) : bits BinOp.and IntKind.u32 (a : Int) (b : Int) = ((a &&& b : Nat) : Int) := u32_and_nat a b ha hb
theorem or_nat (a b : Nat) (ha : a < 4294967296) (hb : b < 4294967296) : bits BinOp.or IntKind.u32 (a : Int) (b : Int) = ((a ||| b : Nat) : Int) := u32_or_nat a b ha hb
theorem and_lt {a b : Nat} (ha : a < 4294967296) : a &&& b < 4294967296 := Nat.lt_of_le_of_lt Nat.and_le_left ha
theorem or_lt {a b : Nat} (ha : a < 4294967296) (hb : b < 4294967296) : a ||| b < 4294967296 := Nat.or_lt_two_pow (n := 32) ha hb
theorem roundP_int (s : S8) (k x : Nat) (he : s.e < 4294967296) (hf : s.f < 4294967296) (hg : s.g < 4294967296) :
    Hid ((((s.h : Int) + (rot3 s.e 6 11 25 : Nat) + bits BinOp.xor IntKind.u32 (s.g : Int) (bits BinOp.and IntKind.u32 (s.e : Int) (bits BinOp.xor IntKind.u32 (s.f : Int) (s.g : Int))) + k) % 4294967296 + x) % 4294967296 = ((roundP s k x : Nat) : Int)) := by
  show _ = _
  rw [xor_nat _ _ hf hg, and_nat _ _ he (xor_lt hf hg), xor_nat _ _ hg (and_lt he)]
  unfold roundP
  omega
theorem roundQ_int (s : S8) (ha : s.a < 4294967296) (hb : s.b < 4294967296) (hc : s.c < 4294967296) :
    Hid (((rot3 s.a 2 13 22 : Nat) + bits BinOp.or IntKind.u32 (bits BinOp.and IntKind.u32 (s.a : Int) (s.b : Int)) (bits BinOp.and IntKind.u32 (s.c : Int) (bits BinOp.or IntKind.u32 (s.a : Int) (s.b : Int)))) % 4294967296 = ((roundQ s : Nat) : Int)) := by
  show _ = _
  rw [or_nat _ _ ha hb, and_nat _ _ ha hb, and_nat _ _ hc (or_lt ha hb), or_nat _ _ (and_lt ha) (and_lt hc)]
  unfold roundQ
  omega
theorem rounds_step {ks ws : List Nat} {s vs : S8} {t k x : Nat} (h : vs = roundsS ks ws s t) (hk : ks[t]? = some k) (hx : ws[t]? = some x) : roundS vs k x = roundsS ks ws s (t + 1) := by
  show _ = roundS (roundsS ks ws s t) (ks[t]?.getD 0) (ws[t]?.getD 0)
  rw [hk, hx, ← h]; rfl
theorem grownBy_of_below {W w : World} (h : Below W.heap.size W w) (r : Option Nat) : W.grownBy w r := ⟨h.os, h.tape, h.output, h.size, fun k hk _ => h.block k hk⟩
/-- The state when k words have been added. -/
def addUpto (s v : S8) (k : Nat) : List Value := u32s ((addS s v).list.take k ++ s.list.drop k)
theorem add_step (s v : S8) (t : Nat) (ht : t < 8) : ∃ x y, s.list[t]? = some x ∧ v.list[t]? = some y ∧ (addUpto s v t)[t]? = some (.int .u32 (x : Nat)) ∧ (addUpto s v t).set t (.int .u32 ((x + y) % 4294967296 : Nat)) = addUpto s v (t + 1) := by
  have h8 : t = 0 ∨ t = 1 ∨ t = 2 ∨ t = 3 ∨ t = 4 ∨ t = 5 ∨ t = 6 ∨ t = 7 := by omega
  rcases h8 with rfl | rfl | rfl | rfl | rfl | rfl | rfl | rfl <;> exact ⟨_, _, rfl, rfl, rfl, rfl⟩
/-- The package's tables lie as the text lays them. -/
def ShaG (w : World) : Prop := (∀ i x, shaK[i]? = some x → w.cell? ⟨1, i, none⟩ = some (.int .u32 (x : Nat))) ∧ (∀ i x, shaS.list[i]? = some x → w.cell? ⟨0, i, none⟩ = some (.int .u32 (x : Nat))) ∧
  1 < w.heap.size ∧ 0 < w.heap.size
theorem ShaG.below {w w' : World} (h : ShaG w) (hb : Below w.heap.size w w') : ShaG w' :=
  ⟨fun i x hx => (hb.cell (p := ⟨1, i, none⟩) h.2.2.1).trans (h.1 i x hx), fun i x hx => (hb.cell (p := ⟨0, i, none⟩) h.2.2.2).trans (h.2.1 i x hx), Nat.lt_of_lt_of_le h.2.2.1 hb.size, Nat.lt_of_lt_of_le h.2.2.2 hb.size⟩

set_option maxRecDepth 100000 in
set_option maxHeartbeats 4000000 in
theorem absorb_any (bs c : Nat) (A : Option Addr) (s : S8) (l : List Nat) (W : World) (hS : Blk W bs 164 (u32s s.list).toArray) (hs : s.ok) (hA : Rd W W.heap.size 1 A 64 (byts l)) (ho : okB l) (hc : 64 ≤ c) (hc2 : c ≤ 9223372036854775807) (hG : ShaG W) :
    Calls Tryd.prog 86 #[.pointer (some ⟨bs, 0, none⟩), .slice A 64 c] W fun r w' => r = .returned (.tuple #[]) ∧ W.grownBy w' (some bs) ∧ Blk w' bs 164 (u32s (blockS s l).list).toArray := by
  have hl : Hid (l.length = 64) := by have := hA.1; rw [byts_length, Nat.mul_one] at this; exact this
  obtain ⟨b, off, rfl, hbb, _⟩ := hA.2 (by omega)
  have hbs := hS.lt
  go_enter Tryd.func86, Tryd.ntmps86
  go_wp2_with fail
  change Code.wp _ _ _ _ (W.alloc (.cells (fillW []).toArray 178))
  have BW := Blk.new W 178 (fillW []).toArray _ rfl
  have hg := World.grownBy_alloc W (.cells (fillW []).toArray 178) (some bs)
  have BS := hS.alloc (.cells (fillW []).toArray 178)
  have hbel := bAl (bRefl W) (.cells (fillW []).toArray 178)
  generalize W.alloc (.cells (fillW []).toArray 178) = w1 at *
  go_loopw [14] (fun i wr => ∃ k : Nat, k ≤ 16 ∧ i = .int .i64 k ∧ Below W.heap.size W wr ∧ Blk wr W.heap.size 178 (fillW (words l k)).toArray) (fun i _ => 16 - (intOf i).toNat)
  case atStart => exact ⟨0, Nat.zero_le _, rfl, hbel, BW⟩
  case round =>
    clear hbel BW hg BS
    obtain ⟨k, hk, rfl, hb, BW⟩ := hrel
    by_cases hlt : k < 16
    · have hA' : Rd wr wr.heap.size 1 (some ⟨b, off + 4 * k, none⟩) (64 - 4 * k) (byts (l.drop (4 * k))) := by
        have h := ((hA.below hb).more hb.size).cut (4 * k) (by omega)
        rw [Nat.mul_one] at h
        have e : byts (l.drop (4 * k)) = (byts l).drop (4 * k) := by simp [byts]
        rw [e]; exact h
      have hw : Hid (accB (l.drop (4 * k)) 4 = wordAt l k) := accB_word l k
      go_wp2_with fail
      refine (word_any _ _ _ _ wr hA' (okB_drop ho _) (by omega) (by omega) (by omega)).mono ?_
      rintro e w' ⟨rfl, rfl⟩
      rw [hw.out]
      obtain ⟨v, hv⟩ := fill_there BW (by rw [words_len]; omega) (show k < 64 by omega)
      have hz := BW.frozen k
      have hk64 : k < 64 := by omega
      have hwl := Lib.hid (words_len l k)
      go_wp2_with fail
      go_roundw
      case rel => exact ⟨k + 1, by omega, by go_num, bSet hb (Nat.le_refl _) _, by rw [words_succ]; exact BW.fill (by rw [hwl.out]; omega) k _ hwl.out⟩
      case measure => simp [intOf]; omega
    · have hk16 : k = 16 := by omega
      rw [hk16] at BW
      clear hk16
      have hW0 : Hid (words l 16 = schedW (words l 16) 0) := rfl
      rw [hW0.out] at BW
      go_wp2_with fail
      go_loopw [6] (fun i wr => ∃ (j : Nat) (ws : List Nat), 16 ≤ j ∧ j ≤ 64 ∧ i = .int .i64 j ∧ Below W.heap.size W wr ∧ Blk wr W.heap.size 178 (fillW ws).toArray ∧ Hid (ltU ws ∧ ws.length = j ∧ ws = schedW (words l 16) (j - 16))) (fun i _ => 64 - (intOf i).toNat)
      case atStart => exact ⟨16, _, Nat.le_refl _, by omega, rfl, hb, BW, Lib.hid ⟨words_lt ho 16, words_len _ _, rfl⟩⟩
      case round =>
        clear hb BW hlt hk hW0
        obtain ⟨j, ws, hj16, hj64, rfl, hb, BW, hW⟩ := hrel
        by_cases hlt : j < 64
        · obtain ⟨hWl, hWn, hWe⟩ := hW.out
          obtain ⟨x16, h16⟩ : ∃ x, Hid (ws[j - 16]? = some x) := ⟨_, Lib.hid (List.getElem?_eq_getElem (by omega))⟩
          obtain ⟨x15, h15⟩ : ∃ x, Hid (ws[j - 15]? = some x) := ⟨_, Lib.hid (List.getElem?_eq_getElem (by omega))⟩
          obtain ⟨x7, h7⟩ : ∃ x, Hid (ws[j - 7]? = some x) := ⟨_, Lib.hid (List.getElem?_eq_getElem (by omega))⟩
          obtain ⟨x2, h2⟩ : ∃ x, Hid (ws[j - 2]? = some x) := ⟨_, Lib.hid (List.getElem?_eq_getElem (by omega))⟩
          have l16 := hWl _ (List.mem_of_getElem? h16.out)
          have l15 := hWl _ (List.mem_of_getElem? h15.out)
          have l7 := hWl _ (List.mem_of_getElem? h7.out)
          have l2 := hWl _ (List.mem_of_getElem? h2.out)
          have d16 := fill_cell BW h16.out
          have d15 := fill_cell BW h15.out
          have d7 := fill_cell BW h7.out
          have d2 := fill_cell BW h2.out
          have i15 : (0 : Int) ≤ (j : Int) - 15 := by omega
          have i15' : (j : Int) - 15 < 64 := by omega
          have i2 : (0 : Int) ≤ (j : Int) - 2 := by omega
          have i2' : (j : Int) - 2 < 64 := by omega
          have hwlen := Lib.hid hWn
          clear hWl hWn hWe
          go_wp2_with fail
          go_quiet (fail)
          have hq := bDrN (bRefl wr) nq
          have hb2 := bDrN hb nq
          have BW2 : Blk (wr.drewN nq) W.heap.size 178 (fillW ws).toArray := BW.below hq BW.lt
          clear d16 d15 d7 d2 hb BW hq
          generalize wr.drewN nq = w2 at *
          have d16 := fill_cell BW2 h16.out
          have d7 := fill_cell BW2 h7.out
          have i16 : (0 : Int) ≤ (j : Int) - 16 := by omega
          have i16' : (j : Int) - 16 < 64 := by omega
          have i7 : (0 : Int) ≤ (j : Int) - 7 := by omega
          have i7' : (j : Int) - 7 < 64 := by omega
          go_wp2_with fail
          refine wp_region_tail 29 (by kernel_rfl) (by kernel_rfl) ?_
          simp only [List.take_succ_cons, List.take_zero, List.drop_succ_cons, List.drop_zero]
          repeat (go_big_quiet_step (first | (go_at_call 98; exact stay_same (rot_any _ _ _ (by assumption) (by decide)))))
          refine wpQuiet_nil ?_
          obtain ⟨v, hv⟩ := fill_there BW2 (by rw [hwlen.out]; omega) (show j < 64 by omega)
          have hz := BW2.frozen j
          go_wp2_with fail
          go_roundw
          case rel =>
            have hv := Lib.hid (nextW_int x16 x15 x7 x2 l15 l2)
            rw [hv.out]
            have hw' := Lib.hid (grow_step hW.out hj16 h16.out h15.out h7.out h2.out)
            refine ⟨j + 1, ws ++ [nextW x16 x15 x7 x2], by omega, by omega, by go_num, bDr (bSet hb2 (Nat.le_refl _) _), (BW2.fill (by rw [hwlen.out]; exact hlt) j _ hwlen.out).below (bDr (bRefl _)) (BW2.fill (by rw [hwlen.out]; exact hlt) j _ hwlen.out).lt, hw'.out⟩
          case measure => simp [intOf]; omega
        · have hj : j = 64 := by omega
          obtain ⟨hWl, hWn, hWe⟩ := hW.out
          rw [hj] at hWe hWn
          clear hj
          rw [show 64 - 16 = 48 from rfl] at hWe
          have hWl' := Lib.hid hWl
          have hWn' := Lib.hid hWn
          have hWe' := Lib.hid hWe
          clear hWl hWn hWe hW
          have BS := hS.below hb hbs
          obtain ⟨q0, q1, q2, q3, q4, q5, q6, q7⟩ := st_cells BS
          clear BS
          go_wp2_with fail
          have BV := Blk.new wr 164 (u32s s.list).toArray _ rfl
          have hb2 := bAl hb (.cells (u32s s.list).toArray 164)
          have BW2 := BW.alloc (.cells (u32s s.list).toArray 164)
          have hnv : W.heap.size < wr.heap.size := BW.lt
          clear hb BW q0 q1 q2 q3 q4 q5 q6 q7
          change Code.wp _ _ _ _ (wr.alloc (.cells (u32s s.list).toArray 164))
          generalize wr.alloc (.cells (u32s s.list).toArray 164) = w2 at *
          generalize wr.heap.size = nv at *
          go_loopw [69] (fun i wr => ∃ (t : Nat) (vs : S8), t ≤ 64 ∧ i = .int .i64 t ∧ Below W.heap.size W wr ∧ Blk wr W.heap.size 178 (fillW ws).toArray ∧ Blk wr nv 164 (u32s vs.list).toArray ∧ vs.ok ∧ Hid (vs = roundsS shaK ws s t)) (fun i _ => 64 - (intOf i).toNat)
          case atStart => exact ⟨0, s, Nat.zero_le _, rfl, hb2, BW2, BV, hs, Lib.hid rfl⟩
          case round =>
            clear hb2 BW2 BV hlt hj16 hj64
            obtain ⟨t, vs, ht64, rfl, hb, BW, BV, hvo, hvs⟩ := hrel
            by_cases hlt : t < 64
            · obtain ⟨xt, hxt⟩ : ∃ x, Hid (ws[t]? = some x) := ⟨_, Lib.hid (List.getElem?_eq_getElem (by rw [hWn'.out]; exact hlt))⟩
              obtain ⟨kt, hkt⟩ : ∃ x, Hid (shaK[t]? = some x) := ⟨_, Lib.hid (List.getElem?_eq_getElem (by rw [shaK_len]; exact hlt))⟩
              have hG1 := (hG.below hb).1 t kt hkt.out
              have dw := fill_cell BW hxt.out
              obtain ⟨v0, v1, v2, v3, v4, v5, v6, v7⟩ := st_cells BV
              obtain ⟨o0, o1, o2, o3, o4, o5, o6, o7⟩ := hvo
              have gl : 1 < wr.heap.size := Nat.lt_of_lt_of_le hG.2.2.1 hb.size
              have it : (t : Int) < 64 := by omega
              have hl1 := BV.lt
              have hl2 := BW.lt
              go_wp2_with fail
              refine wp_region_later_lit wr (bRefl _) (by kernel_rfl) (by kernel_rfl) ?_
              repeat (go_big_quiet_step (first | (go_at_call 99; exact later_same (rotated_e _ _ (by assumption)))))
              refine wpQuiet_nil ?_
              rintro _ ⟨z, rfl⟩
              rw [(roundP_int vs kt xt o4 o5 o6).out]
              go_wp2_with fail
              refine wp_region_later_lit wr (later_below _ _) (by kernel_rfl) (by kernel_rfl) ?_
              repeat (go_big_quiet_step (first | (go_at_call 99; exact later_same (rotated_a _ _ (by assumption)))))
              refine wpQuiet_nil ?_
              rintro _ ⟨z, rfl⟩
              rw [(roundQ_int vs o0 o1 o2).out]
              have hb3 := bCall hb (later_below wr z)
              have BW3 : Blk (later wr z) W.heap.size 178 (fillW ws).toArray := BW.below (later_below wr z) BW.lt
              have BV3 : Blk (later wr z) nv 164 (u32s vs.list).toArray := BV.below (later_below wr z) BV.lt
              go_wp2_with fail
              clear hG1 dw v0 v1 v2 v3 v4 v5 v6 v7 hb BW BV
              generalize later wr z = w3 at *
              refine wp_region_tail 2 (by kernel_rfl) (by kernel_rfl) ?_
              simp only [List.take_succ_cons, List.take_zero, List.drop_succ_cons, List.drop_zero]
              repeat (go_big_quiet_step (fail))
              refine wpQuiet_nil ?_
              have hb4 := bDr hb3
              have BW4 : Blk w3.drew W.heap.size 178 (fillW ws).toArray := BW3.below (bDr (bRefl w3)) BW3.lt
              have BV4 : Blk w3.drew nv 164 (u32s vs.list).toArray := BV3.below (bDr (bRefl w3)) BV3.lt
              clear hb3 BW3 BV3
              generalize w3.drew = w4 at *
              obtain ⟨v0, v1, v2, v3, v4, v5, v6, v7⟩ := st_cells BV4
              refine wpList_copy_splice rfl (.tmp 116) (.tmp 117) 22 22 rfl 78 Tryd.underlying22 (by kernel_rfl) _ _ _ _ _ _ rfl rfl nv 1 (u32s vs.list) 164 BV4 (u32s [vs.a, vs.b, vs.c, vs.d, vs.e, vs.f, vs.g]) rfl ?cp (by simp [u32s_length, S8.list]) (by intro v hv; obtain ⟨x, _, rfl⟩ := List.mem_map.1 hv; rfl) nv w4 (Below.refl _ _) (Nat.le_refl _) ?_
              case cp =>
                intro _
                refine ⟨rfl, _, rfl, ?_⟩
                intro j v hj
                have hj7 : j < 7 := by have := (List.getElem?_eq_some_iff.1 hj).1; simpa [u32s_length] using this
                have ha : (⟨nv, 0, none⟩ : Addr).add j = ⟨nv, j, none⟩ := by
                  unfold Addr.add
                  split
                  · rename_i h; rw [h]
                  · simp
                rw [ha]
                have h8 : j = 0 ∨ j = 1 ∨ j = 2 ∨ j = 3 ∨ j = 4 ∨ j = 5 ∨ j = 6 := by omega
                rcases h8 with rfl | rfl | rfl | rfl | rfl | rfl | rfl
                all_goals
                  simp [u32s] at hj
                  subst hj
                  assumption
              intro w5 H5 hb5
              have BV5 : Blk w5 nv 164 (u32s [vs.a, vs.a, vs.b, vs.c, vs.d, vs.e, vs.f, vs.g]).toArray := H5.out
              have BW5 : Blk w5 W.heap.size 178 (fillW ws).toArray := BW4.below hb5 hnv
              have hb6 : Below W.heap.size W w5 := hb4.trans (hb5.mono (Nat.le_of_lt hnv))
              clear v0 v1 v2 v3 v4 v5 v6 v7 BV4 BW4 hb4 hb5 H5
              have d0 : w5.cell? ⟨nv, 0, none⟩ = some (.int .u32 vs.a) := BV5.cell 0
              have d4 : w5.cell? ⟨nv, 4, none⟩ = some (.int .u32 vs.d) := BV5.cell 4
              have z0 := BV5.frozen 0
              have z4 := BV5.frozen 4
              have hp4 : Hid (((vs.d : Int) + (roundP vs kt xt : Nat)) % 4294967296 = (((vs.d + roundP vs kt xt) % 4294967296 : Nat) : Int)) := by show _ = _; omega
              have hp0 : Hid (((roundP vs kt xt : Nat) + (roundQ vs : Nat) : Int) % 4294967296 = (((roundP vs kt xt + roundQ vs) % 4294967296 : Nat) : Int)) := by show _ = _; omega
              have hpl : roundP vs kt xt < 4294967296 := Nat.mod_lt _ (by decide)
              have hql : roundQ vs < 4294967296 := Nat.mod_lt _ (by decide)
              have hrs := Lib.hid (rounds_step hvs.out hkt.out hxt.out)
              have hok := Lib.hid (roundS_ok (k := kt) (w := xt) (show vs.ok from ⟨o0, o1, o2, o3, o4, o5, o6, o7⟩))
              go_wp2_with fail
              go_roundw
              case rel =>
                rw [hp4.out, hp0.out]
                have hne : nv ≠ W.heap.size := by omega
                exact ⟨t + 1, roundS vs kt xt, by omega, by go_num, bSet (bSet hb6 (Nat.le_of_lt hnv) _) (Nat.le_of_lt hnv) _, (BW5.far (p := ⟨nv, 4, none⟩) (Ne.symm hne) _).far (p := ⟨nv, 0, none⟩) (Ne.symm hne) _, (BV5.set_ 4 _).set_ 0 _, hok.out, hrs⟩
              case measure => simp [intOf]; omega
            · have ht : t = 64 := by omega
              have hvs' := hvs.out
              rw [ht] at hvs'
              have HVS := Lib.hid hvs'
              clear ht hvs'
              have BS := hS.below hb hbs
              go_wp2_with fail
              go_loopw [129] (fun i wr => ∃ t : Nat, t ≤ 8 ∧ i = .int .i64 t ∧ W.grownBy wr (some bs) ∧ Blk wr nv 164 (u32s vs.list).toArray ∧ Blk wr bs 164 (addUpto s vs t).toArray) (fun i _ => 8 - (intOf i).toNat)
              case atStart => exact ⟨0, by omega, rfl, grownBy_of_below hb _, BV, BS⟩
              case round =>
                clear hb BW BV BS
                obtain ⟨t, ht8, rfl, hg, BV, BS⟩ := hrel
                by_cases hlt : t < 8
                · obtain ⟨x, y, hx, hy, hat, hset⟩ := add_step s vs t hlt
                  have d1 : wr.cell? ⟨bs, t, none⟩ = some (.int .u32 x) := by rw [BS.cell]; simpa using hat
                  have d2 : wr.cell? ⟨nv, t, none⟩ = some (.int .u32 y) := by rw [BV.cell]; simpa using u32s_at hy
                  have z1 := BS.frozen t
                  have it : (t : Int) < 8 := by omega
                  have hl1 := BV.lt
                  have hl2 := BS.lt
                  have hs1 : Hid (((x : Int) + y) % 4294967296 = (((x + y) % 4294967296 : Nat) : Int)) := by show _ = _; omega
                  have Hset := Lib.hid hset
                  have hne : bs ≠ nv := by omega
                  have hne' := Lib.hid hne
                  clear hx hy hat hset hne
                  go_wp2_with fail
                  refine wp_region_tail 11 (by kernel_rfl) (by kernel_rfl) ?_
                  simp only [List.take_succ_cons, List.take_zero, List.drop_succ_cons, List.drop_zero]
                  repeat (go_big_quiet_step (fail))
                  refine wpQuiet_nil ?_
                  go_wp2_with fail
                  go_roundw
                  case rel =>
                    rw [hs1.out]
                    refine ⟨t + 1, by omega, by go_num, grownBy_trans (grownBy_trans hg (grownBy_setCell_at wr bs t _)) (grownBy_of_below (bDr (bRefl _)) _), (BV.far (p := ⟨bs, t, none⟩) (Ne.symm hne'.out) _).below (bDr (bRefl _)) (by simpa [World.setCell] using hl1), ?_⟩
                    have h := BS.set_ t (.int .u32 ((x + y) % 4294967296 : Nat))
                    rw [List.setIfInBounds_toArray, Hset.out] at h
                    exact h.below (bDr (bRefl _)) h.lt
                  case measure => simp [intOf]; omega
                · have ht : t = 8 := by omega
                  rw [ht] at BS
                  clear ht
                  go_wp2_with fail
                  go_end0
                  refine ⟨rfl, hg, ?_⟩
                  have e : addUpto s vs 8 = u32s (blockS s l).list := by
                    unfold blockS
                    rw [← hWe'.out, ← HVS.out]; rfl
                  rw [← e]
                  exact BS

end Go.Proofs.YtoeobcmmafncmaaDoor

/-
  Slices cut: their first elements, their cells, their room.
-/
namespace Go.Proofs.YtoeobcmmafncmaaDoor
open Go.RowKit Go.Deep

theorem Rd.pre {w : World} {B sz n : Nat} {A : Option Addr} {xs : List Value} (h : Rd w B sz A n xs) (k : Nat) (hk : k ≤ n) : Rd w B sz A k (xs.take (k * sz)) := by
  refine ⟨?_, fun h0 => ?_⟩
  · rw [List.length_take, h.1]
    exact Nat.min_eq_left (Nat.mul_le_mul_right _ hk)
  · obtain ⟨b, off, e, hb, hc⟩ := h.2 (by omega)
    refine ⟨b, off, e, hb, fun j u hu => hc j u ?_⟩
    rw [List.getElem?_take] at hu
    split at hu
    · exact hu
    · cases hu
theorem flat_take {α : Type} {f : α → List Value} {sz : Nat} (hf : ∀ x, (f x).length = sz) : ∀ (l : List α) (k : Nat), (l.take k).flatMap f = (l.flatMap f).take (k * sz)
  | [], k => by simp
  | x :: l, 0 => by simp
  | x :: l, k + 1 => by
    rw [List.take_succ_cons, List.flatMap_cons, List.flatMap_cons, flat_take hf l k, Nat.succ_mul, List.take_append, hf]
    congr 1
    · rw [List.take_of_length_le (by rw [hf]; omega)]
    · congr 1
      omega
theorem flat_drop {α : Type} {f : α → List Value} {sz : Nat} (hf : ∀ x, (f x).length = sz) : ∀ (l : List α) (k : Nat), (l.drop k).flatMap f = (l.flatMap f).drop (k * sz)
  | [], k => by simp
  | x :: l, 0 => by simp
  | x :: l, k + 1 => by
    rw [List.drop_succ_cons, List.flatMap_cons, flat_drop hf l k, Nat.succ_mul, List.drop_append, hf]
    have e1 : (f x).drop (k * sz + sz) = [] := List.drop_of_length_le (by rw [hf]; omega)
    have e2 : k * sz + sz - sz = k * sz := by omega
    rw [e1, e2, List.nil_append]
/-- The room of a slice that came in. -/
theorem open_cap {H : Type} {enc : TypeId × Value → H} {P : Program} {w : World} {base : Nat} {spare : Nat → Bool} {held : Bool} {t e : TypeId} {fuel : Nat} {A : Option Addr} {n c : Nat} {x : DataW H × List MemPlace} (ht : P.underlying t = some (.slice e))
    (h : DataW.trod enc P w base spare held fuel t [.slice A n c] = some x) : n ≤ c ∧ c ≤ maxLen := by
  rcases open_slice ht h with ⟨he, _⟩ | ⟨a, len, cap, m, n', D, Pl, he, hb, hl, hm, hmm, rfl, hx⟩
  · injection he with he
    injection he with h1 h2 h3
    subst h2; subst h3
    exact ⟨Nat.le_refl _, Nat.zero_le _⟩
  · injection he with he
    injection he with h1 h2 h3
    subst h2; subst h3
    exact ⟨hl, hm⟩

end Go.Proofs.YtoeobcmmafncmaaDoor
