/-
  A region that draws its order, whose operations only read (its callees leave the world as it is), but for the last ones, that stand in one forced order.
-/
import Derived.Test.YthgppaiiapkdjaaGreatDoorMaa
import Derived.StillTailTactics
import Derived.BigQuiet
import Derived.IntWalk
import Derived.Laws.CopyOwn
import Derived.Deep.RegionHeld3
import Derived.StillTail
namespace Go.Proofs.YthgppaiiapkdjaaGreatDoor
open Go.RowKit

/-- The world itself, under a name that stands. -/
def stay (w : World) (_ : Later) : World := w
theorem cell_stay (w : World) (x : Later) (p : Addr) : (stay w x).cell? p = w.cell? p := rfl
theorem frozen_stay (w : World) (x : Later) (p : Addr) : (stay w x).frozen? p = w.frozen? p := rfl
theorem heap_stay (w : World) (x : Later) : (stay w x).heap = w.heap := rfl
attribute [go_sem] cell_stay frozen_stay heap_stay
theorem still_of_quiet {P : Program} {o : Oper} {a : Act} {w0 : World} {next next' : Act → Prop} (hn : ∀ a, next a → next' a) (h : o.quiet P a (fun w' => ∃ x : Later, w' = stay w0 x) next) : o.still P a w0 next' := by
  obtain ⟨v, hv, hk⟩ := h
  have h1 := hv w0 ⟨default, rfl⟩
  unfold Oper.quietAt at h1
  unfold Oper.still
  generalize (execOp a.eval o).run P w0 = r at *
  cases r with
  | ok n w' =>
    cases n with
    | value u => obtain ⟨e1, e2⟩ := h1; subst e2; exact ⟨e1, hn _ hk⟩
    | skip => obtain ⟨e1, e2⟩ := h1; subst e2; exact ⟨e1, hn _ hk⟩
    | enter f args => exact ⟨h1.1, v, h1.2.mono fun e w'' ⟨he, x, hx⟩ => ⟨he, hx⟩, hn _ hk⟩
    | _ => exact h1.elim
  | halt x w' => exact h1.elim
theorem wpStill_of_quiet {P : Program} {ops : Array Oper} {w0 : World} {Q : Act → Prop} : ∀ (l : List Oper) (a : Act), wpQuiet P ops (fun w' => ∃ x : Later, w' = stay w0 x) Q l a → wpStill P ops w0 Q l a
  | [], _, h => h
  | o :: rest, a, h => by
    simp only [wpQuiet] at h
    simp only [wpStill]
    split at h
    · rename_i hw
      rw [if_pos hw]
      exact still_of_quiet (fun a' ha => wpStill_of_quiet rest a' ha) h
    · rename_i hw
      rw [if_neg hw]
      exact wpStill_of_quiet rest _ h
theorem wp_region_tail {P : Program} {id : Nat} {Q : Exit → Act → World → Prop} {a : Act} {w : World} {l : List Oper} (n : Nat) (hm : P.follows .mixedOrders = true) (hB : Region.lexTailB .any l.toArray n = true)
    (h : wpQuiet P l.toArray (fun w' => ∃ x : Later, w' = stay w.drew x) (fun a' => wpList P l.toArray Q (l.drop n) a' w.drew) (l.take n) a) : (Code.region id l.toArray true).wp P Q a w :=
  wp_region_still_tail n hm hB (wpStill_of_quiet _ _ h)
theorem stay_same {P : Program} {f : FuncId} {args : Array Value} {v : Value} {w : World} {x : Later} (h : Calls P f args (stay w x) (Same v (stay w x))) :
    Calls P f args (stay w x) fun e w'' => e = .returned v ∧ ∃ y : Later, w'' = stay w y :=
  h.mono fun _ _ ⟨he, hb⟩ => ⟨he, x, hb.symm⟩

end Go.Proofs.YthgppaiiapkdjaaGreatDoor

/-
  SHA-256: a block is absorbed, walked.
-/
namespace Go.Proofs.YthgppaiiapkdjaaGreatDoor
open Go.RowKit

/-- A row of words that is filled from its beginning. -/
def fillW (ws : List Nat) : List Value := u32s (ws ++ List.replicate (64 - ws.length) 0)
theorem fillW_len {ws : List Nat} (h : ws.length ≤ 64) : (fillW ws).length = 64 := by simp [fillW, u32s_length]; omega
theorem fillW_set {ws : List Nat} (h : ws.length < 64) (x : Nat) : (fillW ws).set ws.length (.int .u32 x) = fillW (ws ++ [x]) := by
  have e : 64 - ws.length = (64 - (ws ++ [x]).length) + 1 := by simp; omega
  unfold fillW u32s
  rw [e, List.replicate_succ, List.map_append, List.set_append_right _ _ (by simp)]
  simp
theorem fillW_at {ws : List Nat} {k x : Nat} (h : ws[k]? = some x) : (fillW ws)[k]? = some (.int .u32 x) := by
  unfold fillW
  refine u32s_at ?_
  rw [List.getElem?_append_left (List.getElem?_eq_some_iff.1 h).1]; exact h
theorem fill_cell {w : World} {b : Nat} {t : TypeId} {ws : List Nat} {k x : Nat} (hB : Blk w b t (fillW ws).toArray) (h : ws[k]? = some x) : w.cell? ⟨b, k, none⟩ = some (.int .u32 x) := by
  rw [hB.cell]; simpa using fillW_at h

theorem fill_there {w : World} {b : Nat} {t : TypeId} {ws : List Nat} {k : Nat} (hB : Blk w b t (fillW ws).toArray) (h : ws.length ≤ 64) (hk : k < 64) : ∃ v, w.cell? ⟨b, k, none⟩ = some v := by
  rw [hB.cell]
  simp only [List.getElem?_toArray]
  exact ⟨_, List.getElem?_eq_getElem (by rw [fillW_len h]; exact hk)⟩
theorem Blk.fill {w : World} {b : Nat} {t : TypeId} {ws : List Nat} (hB : Blk w b t (fillW ws).toArray) (h : ws.length < 64) (k x : Nat) (hk : ws.length = k) : Blk (w.setCell ⟨b, k, none⟩ (.int .u32 x)) b t (fillW (ws ++ [x])).toArray := by
  subst hk
  have := hB.set_ ws.length (.int .u32 x)
  rw [List.setIfInBounds_toArray, fillW_set h] at this
  exact this
def ltU (ws : List Nat) : Prop := ∀ x ∈ ws, x < 4294967296

theorem Rd.cut' {w : World} {B sz n b off : Nat} {xs : List Value} (h : Rd w B sz (some ⟨b, off, none⟩) n xs) (k : Nat) (hk : k ≤ n) : Rd w B sz (some ⟨b, off + k * sz, none⟩) (n - k) (xs.drop (k * sz)) := h.cut k hk

theorem accB_word (l : List Nat) (t : Nat) : accB (l.drop (4 * t)) 4 = wordAt l t := by
  unfold wordAt wordN
  simp [accB]
theorem okB_drop {l : List Nat} (h : okB l) (k : Nat) : okB (l.drop k) := fun x hx => h x (List.mem_of_mem_drop hx)

theorem rotS (v : Nat) (k : Int) (w : World) (h1 : v < 4294967296) (hk : rotOk k = true) :
    Calls Tryz.prog 116 #[.int .u32 v, .int .i64 k] w fun e w'' => e = .returned (.int .u32 (rotN v (-k).toNat)) ∧ w'' = w := (rot_any v k w h1 hk).mono fun _ _ ⟨he, hw⟩ => ⟨he, hw.symm⟩
theorem words_lt {l : List Nat} (h : okB l) (n : Nat) : ltU (words l n) := by
  intro x hx
  obtain ⟨t, _, rfl⟩ := List.mem_map.1 hx
  rw [← accB_word]
  exact accB_lt (okB_drop h _) 4
theorem nextW_lt (z y s x : Nat) : nextW z y s x < 4294967296 := Nat.mod_lt _ (by decide)
theorem ltU_snoc {ws : List Nat} (h : ltU ws) {x : Nat} (hx : x < 4294967296) : ltU (ws ++ [x]) := by
  intro y hy
  rw [List.mem_append, List.mem_singleton] at hy
  rcases hy with hy | rfl
  · exact h y hy
  · exact hx

theorem div_lt {v d : Nat} (h : v < 4294967296) : v / d < 4294967296 := Nat.lt_of_le_of_lt (Nat.div_le_self _ _) h
theorem nextW_int (z y s x : Nat) (hy : y < 4294967296) (hx : x < 4294967296) :
    (((z : Int) + bits BinOp.xor IntKind.u32 (bits BinOp.xor IntKind.u32 (rotN y 7 : Nat) (rotN y 18 : Nat)) ((y : Int) / 8) + s + bits BinOp.xor IntKind.u32 (bits BinOp.xor IntKind.u32 (rotN x 17 : Nat) (rotN x 19 : Nat)) ((x : Int) / 1024)) % 4294967296) = ((nextW z y s x : Nat) : Int) := by
  have e1 : ((y : Int) / 8) = ((y / 8 : Nat) : Int) := by simp
  have e2 : ((x : Int) / 1024) = ((x / 1024 : Nat) : Int) := by simp
  rw [e1, e2, xor_nat _ _ (rotN_lt hy) (rotN_lt hy), xor_nat _ _ (rotN_lt hx) (rotN_lt hx), xor_nat _ _ (xor_lt (rotN_lt hy) (rotN_lt hy)) (div_lt hy), xor_nat _ _ (xor_lt (rotN_lt hx) (rotN_lt hx)) (div_lt hx)]
  unfold nextW
  omega
theorem grow_step {ws l : List Nat} {j x16 x15 x7 x2 : Nat} (h : ltU ws ∧ ws.length = j ∧ ws = schedW (words l 16) (j - 16)) (hj : 16 ≤ j) (h16 : ws[j - 16]? = some x16) (h15 : ws[j - 15]? = some x15) (h7 : ws[j - 7]? = some x7) (h2 : ws[j - 2]? = some x2) :
    ltU (ws ++ [nextW x16 x15 x7 x2]) ∧ (ws ++ [nextW x16 x15 x7 x2]).length = j + 1 ∧ ws ++ [nextW x16 x15 x7 x2] = schedW (words l 16) (j + 1 - 16) := by
  obtain ⟨hl, hn, he⟩ := h
  refine ⟨ltU_snoc hl (nextW_lt _ _ _ _), by simp [hn], ?_⟩
  rw [show j + 1 - 16 = (j - 16) + 1 by omega]
  show _ = growW (schedW (words l 16) (j - 16))
  rw [← he]
  unfold growW
  rw [hn, h16, h15, h7, h2]
  rfl

theorem st_cells {w : World} {b : Nat} {t : TypeId} {s : S8} (h : Blk w b t (u32s s.list).toArray) :
    w.cell? ⟨b, 0, none⟩ = some (.int .u32 s.a) ∧ w.cell? ⟨b, 1, none⟩ = some (.int .u32 s.b) ∧ w.cell? ⟨b, 2, none⟩ = some (.int .u32 s.c) ∧ w.cell? ⟨b, 3, none⟩ = some (.int .u32 s.d) ∧
    w.cell? ⟨b, 4, none⟩ = some (.int .u32 s.e) ∧ w.cell? ⟨b, 5, none⟩ = some (.int .u32 s.f) ∧ w.cell? ⟨b, 6, none⟩ = some (.int .u32 s.g) ∧ w.cell? ⟨b, 7, none⟩ = some (.int .u32 s.h) :=
  ⟨h.cell 0, h.cell 1, h.cell 2, h.cell 3, h.cell 4, h.cell 5, h.cell 6, h.cell 7⟩

theorem and_nat (a b : Nat) (ha : a < 4294967296) (hb : b < 4294967296) : bits BinOp.and IntKind.u32 (a : Int) (b : Int) = ((a &&& b : Nat) : Int) := u32_and_nat a b ha hb
theorem or_nat (a b : Nat) (ha : a < 4294967296) (hb : b < 4294967296) : bits BinOp.or IntKind.u32 (a : Int) (b : Int) = ((a ||| b : Nat) : Int) := u32_or_nat a b ha hb
theorem and_lt {a b : Nat} (ha : a < 4294967296) : a &&& b < 4294967296 := Nat.lt_of_le_of_lt Nat.and_le_left ha
theorem or_lt {a b : Nat} (ha : a < 4294967296) (hb : b < 4294967296) : a ||| b < 4294967296 := Nat.or_lt_two_pow (n := 32) ha hb
theorem roundP_int (s : S8) (k x : Nat) (he : s.e < 4294967296) (hf : s.f < 4294967296) (hg : s.g < 4294967296) :
    Hid ((((s.h : Int) + (rot3 s.e 6 11 25 : Nat) + bits BinOp.xor IntKind.u32 (s.g : Int) (bits BinOp.and IntKind.u32 (s.e : Int) (bits BinOp.xor IntKind.u32 (s.f : Int) (s.g : Int))) + k) % 4294967296 + x) % 4294967296 = ((roundP s k x : Nat) : Int)) := by
  show _ = _
  rw [xor_nat _ _ hf hg, and_nat _ _ he (xor_lt hf hg), xor_nat _ _ hg (and_lt he)]
  unfold roundP
  omega
theorem roundQ_int (s : S8) (ha : s.a < 4294967296) (hb : s.b < 4294967296) (hc : s.c < 4294967296) :
    Hid (((rot3 s.a 2 13 22 : Nat) + bits BinOp.or IntKind.u32 (bits BinOp.and IntKind.u32 (s.a : Int) (s.b : Int)) (bits BinOp.and IntKind.u32 (s.c : Int) (bits BinOp.or IntKind.u32 (s.a : Int) (s.b : Int)))) % 4294967296 = ((roundQ s : Nat) : Int)) := by
  show _ = _
  rw [or_nat _ _ ha hb, and_nat _ _ ha hb, and_nat _ _ hc (or_lt ha hb), or_nat _ _ (and_lt ha) (and_lt hc)]
  unfold roundQ
  omega
theorem rounds_step {ks ws : List Nat} {s vs : S8} {t k x : Nat} (h : vs = roundsS ks ws s t) (hk : ks[t]? = some k) (hx : ws[t]? = some x) : roundS vs k x = roundsS ks ws s (t + 1) := by
  show _ = roundS (roundsS ks ws s t) (ks[t]?.getD 0) (ws[t]?.getD 0)
  rw [hk, hx, ← h]; rfl
theorem grownBy_of_below {W w : World} (h : Below W.heap.size W w) (r : Option Nat) : W.grownBy w r := ⟨h.os, h.tape, h.output, h.size, fun k hk _ => h.block k hk⟩
/-- The state when k words have been added. -/
def addUpto (s v : S8) (k : Nat) : List Value := u32s ((addS s v).list.take k ++ s.list.drop k)
theorem add_step (s v : S8) (t : Nat) (ht : t < 8) : ∃ x y, s.list[t]? = some x ∧ v.list[t]? = some y ∧ (addUpto s v t)[t]? = some (.int .u32 (x : Nat)) ∧ (addUpto s v t).set t (.int .u32 ((x + y) % 4294967296 : Nat)) = addUpto s v (t + 1) := by
  have h8 : t = 0 ∨ t = 1 ∨ t = 2 ∨ t = 3 ∨ t = 4 ∨ t = 5 ∨ t = 6 ∨ t = 7 := by omega
  rcases h8 with rfl | rfl | rfl | rfl | rfl | rfl | rfl | rfl <;> exact ⟨_, _, rfl, rfl, rfl, rfl⟩
/-- The package's tables lie as the text lays them. -/
def ShaG (w : World) : Prop := (∀ i x, shaK[i]? = some x → w.cell? ⟨1, i, none⟩ = some (.int .u32 (x : Nat))) ∧ (∀ i x, shaS.list[i]? = some x → w.cell? ⟨0, i, none⟩ = some (.int .u32 (x : Nat))) ∧
  1 < w.heap.size ∧ 0 < w.heap.size
theorem ShaG.below {w w' : World} (h : ShaG w) (hb : Below w.heap.size w w') : ShaG w' :=
  ⟨fun i x hx => (hb.cell (p := ⟨1, i, none⟩) h.2.2.1).trans (h.1 i x hx), fun i x hx => (hb.cell (p := ⟨0, i, none⟩) h.2.2.2).trans (h.2.1 i x hx), Nat.lt_of_lt_of_le h.2.2.1 hb.size, Nat.lt_of_lt_of_le h.2.2.2 hb.size⟩

set_option maxRecDepth 100000 in
set_option maxHeartbeats 4000000 in
theorem absorb_any (bs c : Nat) (A : Option Addr) (s : S8) (l : List Nat) (W : World) (hS : Blk W bs 157 (u32s s.list).toArray) (hs : s.ok) (hA : Rd W W.heap.size 1 A 64 (byts l)) (ho : okB l) (hc : 64 ≤ c) (hc2 : c ≤ 9223372036854775807) (hG : ShaG W) :
    Calls Tryz.prog 100 #[.pointer (some ⟨bs, 0, none⟩), .slice A 64 c] W fun r w' => r = .returned (.tuple #[]) ∧ W.grownBy w' (some bs) ∧ Blk w' bs 157 (u32s (blockS s l).list).toArray := by
  have hl : Hid (l.length = 64) := by have := hA.1; rw [byts_length, Nat.mul_one] at this; exact this
  obtain ⟨b, off, rfl, hbb, _⟩ := hA.2 (by omega)
  have hbs := hS.lt
  go_enter Tryz.func100, Tryz.ntmps100
  go_wp2_with fail
  change Code.wp _ _ _ _ (W.alloc (.cells (fillW []).toArray 174))
  have BW := Blk.new W 174 (fillW []).toArray _ rfl
  have hg := World.grownBy_alloc W (.cells (fillW []).toArray 174) (some bs)
  have BS := hS.alloc (.cells (fillW []).toArray 174)
  have hbel := bAl (bRefl W) (.cells (fillW []).toArray 174)
  generalize W.alloc (.cells (fillW []).toArray 174) = w1 at *
  go_loopw [14] (fun i wr => ∃ k : Nat, k ≤ 16 ∧ i = .int .i64 k ∧ Below W.heap.size W wr ∧ Blk wr W.heap.size 174 (fillW (words l k)).toArray) (fun i _ => 16 - (intOf i).toNat)
  case atStart => exact ⟨0, Nat.zero_le _, rfl, hbel, BW⟩
  case round =>
    clear hbel BW hg BS
    obtain ⟨k, hk, rfl, hb, BW⟩ := hrel
    by_cases hlt : k < 16
    · have hA' : Rd wr wr.heap.size 1 (some ⟨b, off + 4 * k, none⟩) (64 - 4 * k) (byts (l.drop (4 * k))) := by
        have h := ((hA.below hb).more hb.size).cut (4 * k) (by omega)
        rw [Nat.mul_one] at h
        have e : byts (l.drop (4 * k)) = (byts l).drop (4 * k) := by simp [byts]
        rw [e]; exact h
      have hw : Hid (accB (l.drop (4 * k)) 4 = wordAt l k) := accB_word l k
      go_wp2_with fail
      refine (word_any _ _ _ _ wr hA' (okB_drop ho _) (by omega) (by omega) (by omega)).mono ?_
      rintro e w' ⟨rfl, rfl⟩
      rw [hw.out]
      obtain ⟨v, hv⟩ := fill_there BW (by rw [words_len]; omega) (show k < 64 by omega)
      have hz := BW.frozen k
      have hk64 : k < 64 := by omega
      have hwl := Lib.hid (words_len l k)
      go_wp2_with fail
      go_roundw
      case rel => exact ⟨k + 1, by omega, by go_num, bSet hb (Nat.le_refl _) _, by rw [words_succ]; exact BW.fill (by rw [hwl.out]; omega) k _ hwl.out⟩
      case measure => simp [intOf]; omega
    · have hk16 : k = 16 := by omega
      rw [hk16] at BW
      clear hk16
      have hW0 : Hid (words l 16 = schedW (words l 16) 0) := rfl
      rw [hW0.out] at BW
      go_wp2_with fail
      go_loopw [6] (fun i wr => ∃ (j : Nat) (ws : List Nat), 16 ≤ j ∧ j ≤ 64 ∧ i = .int .i64 j ∧ Below W.heap.size W wr ∧ Blk wr W.heap.size 174 (fillW ws).toArray ∧ Hid (ltU ws ∧ ws.length = j ∧ ws = schedW (words l 16) (j - 16))) (fun i _ => 64 - (intOf i).toNat)
      case atStart => exact ⟨16, _, Nat.le_refl _, by omega, rfl, hb, BW, Lib.hid ⟨words_lt ho 16, words_len _ _, rfl⟩⟩
      case round =>
        clear hb BW hlt hk hW0
        obtain ⟨j, ws, hj16, hj64, rfl, hb, BW, hW⟩ := hrel
        by_cases hlt : j < 64
        · obtain ⟨hWl, hWn, hWe⟩ := hW.out
          obtain ⟨x16, h16⟩ : ∃ x, Hid (ws[j - 16]? = some x) := ⟨_, Lib.hid (List.getElem?_eq_getElem (by omega))⟩
          obtain ⟨x15, h15⟩ : ∃ x, Hid (ws[j - 15]? = some x) := ⟨_, Lib.hid (List.getElem?_eq_getElem (by omega))⟩
          obtain ⟨x7, h7⟩ : ∃ x, Hid (ws[j - 7]? = some x) := ⟨_, Lib.hid (List.getElem?_eq_getElem (by omega))⟩
          obtain ⟨x2, h2⟩ : ∃ x, Hid (ws[j - 2]? = some x) := ⟨_, Lib.hid (List.getElem?_eq_getElem (by omega))⟩
          have l16 := hWl _ (List.mem_of_getElem? h16.out)
          have l15 := hWl _ (List.mem_of_getElem? h15.out)
          have l7 := hWl _ (List.mem_of_getElem? h7.out)
          have l2 := hWl _ (List.mem_of_getElem? h2.out)
          have d16 := fill_cell BW h16.out
          have d15 := fill_cell BW h15.out
          have d7 := fill_cell BW h7.out
          have d2 := fill_cell BW h2.out
          have i15 : (0 : Int) ≤ (j : Int) - 15 := by omega
          have i15' : (j : Int) - 15 < 64 := by omega
          have i2 : (0 : Int) ≤ (j : Int) - 2 := by omega
          have i2' : (j : Int) - 2 < 64 := by omega
          have hwlen := Lib.hid hWn
          clear hWl hWn hWe
          go_wp2_with fail
          go_quiet (fail)
          have hq := bDrN (bRefl wr) nq
          have hb2 := bDrN hb nq
          have BW2 : Blk (wr.drewN nq) W.heap.size 174 (fillW ws).toArray := BW.below hq BW.lt
          clear d16 d15 d7 d2 hb BW hq
          generalize wr.drewN nq = w2 at *
          have d16 := fill_cell BW2 h16.out
          have d7 := fill_cell BW2 h7.out
          have i16 : (0 : Int) ≤ (j : Int) - 16 := by omega
          have i16' : (j : Int) - 16 < 64 := by omega
          have i7 : (0 : Int) ≤ (j : Int) - 7 := by omega
          have i7' : (j : Int) - 7 < 64 := by omega
          go_wp2_with fail
          refine wp_region_tail 29 (by kernel_rfl) (by kernel_rfl) ?_
          simp only [List.take_succ_cons, List.take_zero, List.drop_succ_cons, List.drop_zero]
          repeat (go_big_quiet_step (first | (go_at_call 116; exact stay_same (rot_any _ _ _ (by assumption) (by decide)))))
          refine wpQuiet_nil ?_
          obtain ⟨v, hv⟩ := fill_there BW2 (by rw [hwlen.out]; omega) (show j < 64 by omega)
          have hz := BW2.frozen j
          go_wp2_with fail
          go_roundw
          case rel =>
            have hv := Lib.hid (nextW_int x16 x15 x7 x2 l15 l2)
            rw [hv.out]
            have hw' := Lib.hid (grow_step hW.out hj16 h16.out h15.out h7.out h2.out)
            refine ⟨j + 1, ws ++ [nextW x16 x15 x7 x2], by omega, by omega, by go_num, bDr (bSet hb2 (Nat.le_refl _) _), (BW2.fill (by rw [hwlen.out]; exact hlt) j _ hwlen.out).below (bDr (bRefl _)) (BW2.fill (by rw [hwlen.out]; exact hlt) j _ hwlen.out).lt, hw'.out⟩
          case measure => simp [intOf]; omega
        · have hj : j = 64 := by omega
          obtain ⟨hWl, hWn, hWe⟩ := hW.out
          rw [hj] at hWe hWn
          clear hj
          rw [show 64 - 16 = 48 from rfl] at hWe
          have hWl' := Lib.hid hWl
          have hWn' := Lib.hid hWn
          have hWe' := Lib.hid hWe
          clear hWl hWn hWe hW
          have BS := hS.below hb hbs
          obtain ⟨q0, q1, q2, q3, q4, q5, q6, q7⟩ := st_cells BS
          clear BS
          go_wp2_with fail
          have BV := Blk.new wr 157 (u32s s.list).toArray _ rfl
          have hb2 := bAl hb (.cells (u32s s.list).toArray 157)
          have BW2 := BW.alloc (.cells (u32s s.list).toArray 157)
          have hnv : W.heap.size < wr.heap.size := BW.lt
          clear hb BW q0 q1 q2 q3 q4 q5 q6 q7
          change Code.wp _ _ _ _ (wr.alloc (.cells (u32s s.list).toArray 157))
          generalize wr.alloc (.cells (u32s s.list).toArray 157) = w2 at *
          generalize wr.heap.size = nv at *
          go_loopw [69] (fun i wr => ∃ (t : Nat) (vs : S8), t ≤ 64 ∧ i = .int .i64 t ∧ Below W.heap.size W wr ∧ Blk wr W.heap.size 174 (fillW ws).toArray ∧ Blk wr nv 157 (u32s vs.list).toArray ∧ vs.ok ∧ Hid (vs = roundsS shaK ws s t)) (fun i _ => 64 - (intOf i).toNat)
          case atStart => exact ⟨0, s, Nat.zero_le _, rfl, hb2, BW2, BV, hs, Lib.hid rfl⟩
          case round =>
            clear hb2 BW2 BV hlt hj16 hj64
            obtain ⟨t, vs, ht64, rfl, hb, BW, BV, hvo, hvs⟩ := hrel
            by_cases hlt : t < 64
            · obtain ⟨xt, hxt⟩ : ∃ x, Hid (ws[t]? = some x) := ⟨_, Lib.hid (List.getElem?_eq_getElem (by rw [hWn'.out]; exact hlt))⟩
              obtain ⟨kt, hkt⟩ : ∃ x, Hid (shaK[t]? = some x) := ⟨_, Lib.hid (List.getElem?_eq_getElem (by rw [shaK_len]; exact hlt))⟩
              have hG1 := (hG.below hb).1 t kt hkt.out
              have dw := fill_cell BW hxt.out
              obtain ⟨v0, v1, v2, v3, v4, v5, v6, v7⟩ := st_cells BV
              obtain ⟨o0, o1, o2, o3, o4, o5, o6, o7⟩ := hvo
              have gl : 1 < wr.heap.size := Nat.lt_of_lt_of_le hG.2.2.1 hb.size
              have it : (t : Int) < 64 := by omega
              have hl1 := BV.lt
              have hl2 := BW.lt
              go_wp2_with fail
              refine wp_region_later_lit wr (bRefl _) (by kernel_rfl) (by kernel_rfl) ?_
              repeat (go_big_quiet_step (first | (go_at_call 117; exact later_same (rotated_e _ _ (by assumption)))))
              refine wpQuiet_nil ?_
              rintro _ ⟨z, rfl⟩
              rw [(roundP_int vs kt xt o4 o5 o6).out]
              go_wp2_with fail
              refine wp_region_later_lit wr (later_below _ _) (by kernel_rfl) (by kernel_rfl) ?_
              repeat (go_big_quiet_step (first | (go_at_call 117; exact later_same (rotated_a _ _ (by assumption)))))
              refine wpQuiet_nil ?_
              rintro _ ⟨z, rfl⟩
              rw [(roundQ_int vs o0 o1 o2).out]
              have hb3 := bCall hb (later_below wr z)
              have BW3 : Blk (later wr z) W.heap.size 174 (fillW ws).toArray := BW.below (later_below wr z) BW.lt
              have BV3 : Blk (later wr z) nv 157 (u32s vs.list).toArray := BV.below (later_below wr z) BV.lt
              go_wp2_with fail
              clear hG1 dw v0 v1 v2 v3 v4 v5 v6 v7 hb BW BV
              generalize later wr z = w3 at *
              refine wp_region_tail 2 (by kernel_rfl) (by kernel_rfl) ?_
              simp only [List.take_succ_cons, List.take_zero, List.drop_succ_cons, List.drop_zero]
              repeat (go_big_quiet_step (fail))
              refine wpQuiet_nil ?_
              have hb4 := bDr hb3
              have BW4 : Blk w3.drew W.heap.size 174 (fillW ws).toArray := BW3.below (bDr (bRefl w3)) BW3.lt
              have BV4 : Blk w3.drew nv 157 (u32s vs.list).toArray := BV3.below (bDr (bRefl w3)) BV3.lt
              clear hb3 BW3 BV3
              generalize w3.drew = w4 at *
              obtain ⟨v0, v1, v2, v3, v4, v5, v6, v7⟩ := st_cells BV4
              refine wpList_copy_splice rfl (.tmp 116) (.tmp 117) 178 178 rfl 155 Tryz.underlying178 (by kernel_rfl) _ _ _ _ _ _ rfl rfl nv 1 (u32s vs.list) 157 BV4 (u32s [vs.a, vs.b, vs.c, vs.d, vs.e, vs.f, vs.g]) rfl ?cp (by simp [u32s_length, S8.list]) (by intro v hv; obtain ⟨x, _, rfl⟩ := List.mem_map.1 hv; rfl) nv w4 (Below.refl _ _) (Nat.le_refl _) ?_
              case cp =>
                intro _
                refine ⟨rfl, _, rfl, ?_⟩
                intro j v hj
                have hj7 : j < 7 := by have := (List.getElem?_eq_some_iff.1 hj).1; simpa [u32s_length] using this
                have ha : (⟨nv, 0, none⟩ : Addr).add j = ⟨nv, j, none⟩ := by
                  unfold Addr.add
                  split
                  · rename_i h; rw [h]
                  · simp
                rw [ha]
                have h8 : j = 0 ∨ j = 1 ∨ j = 2 ∨ j = 3 ∨ j = 4 ∨ j = 5 ∨ j = 6 := by omega
                rcases h8 with rfl | rfl | rfl | rfl | rfl | rfl | rfl
                all_goals
                  simp [u32s] at hj
                  subst hj
                  assumption
              intro w5 H5 hb5
              have BV5 : Blk w5 nv 157 (u32s [vs.a, vs.a, vs.b, vs.c, vs.d, vs.e, vs.f, vs.g]).toArray := H5.out
              have BW5 : Blk w5 W.heap.size 174 (fillW ws).toArray := BW4.below hb5 hnv
              have hb6 : Below W.heap.size W w5 := hb4.trans (hb5.mono (Nat.le_of_lt hnv))
              clear v0 v1 v2 v3 v4 v5 v6 v7 BV4 BW4 hb4 hb5 H5
              have d0 : w5.cell? ⟨nv, 0, none⟩ = some (.int .u32 vs.a) := BV5.cell 0
              have d4 : w5.cell? ⟨nv, 4, none⟩ = some (.int .u32 vs.d) := BV5.cell 4
              have z0 := BV5.frozen 0
              have z4 := BV5.frozen 4
              have hp4 : Hid (((vs.d : Int) + (roundP vs kt xt : Nat)) % 4294967296 = (((vs.d + roundP vs kt xt) % 4294967296 : Nat) : Int)) := by show _ = _; omega
              have hp0 : Hid (((roundP vs kt xt : Nat) + (roundQ vs : Nat) : Int) % 4294967296 = (((roundP vs kt xt + roundQ vs) % 4294967296 : Nat) : Int)) := by show _ = _; omega
              have hpl : roundP vs kt xt < 4294967296 := Nat.mod_lt _ (by decide)
              have hql : roundQ vs < 4294967296 := Nat.mod_lt _ (by decide)
              have hrs := Lib.hid (rounds_step hvs.out hkt.out hxt.out)
              have hok := Lib.hid (roundS_ok (k := kt) (w := xt) (show vs.ok from ⟨o0, o1, o2, o3, o4, o5, o6, o7⟩))
              go_wp2_with fail
              go_roundw
              case rel =>
                rw [hp4.out, hp0.out]
                have hne : nv ≠ W.heap.size := by omega
                exact ⟨t + 1, roundS vs kt xt, by omega, by go_num, bSet (bSet hb6 (Nat.le_of_lt hnv) _) (Nat.le_of_lt hnv) _, (BW5.far (p := ⟨nv, 4, none⟩) (Ne.symm hne) _).far (p := ⟨nv, 0, none⟩) (Ne.symm hne) _, (BV5.set_ 4 _).set_ 0 _, hok.out, hrs⟩
              case measure => simp [intOf]; omega
            · have ht : t = 64 := by omega
              have hvs' := hvs.out
              rw [ht] at hvs'
              have HVS := Lib.hid hvs'
              clear ht hvs'
              have BS := hS.below hb hbs
              go_wp2_with fail
              go_loopw [129] (fun i wr => ∃ t : Nat, t ≤ 8 ∧ i = .int .i64 t ∧ W.grownBy wr (some bs) ∧ Blk wr nv 157 (u32s vs.list).toArray ∧ Blk wr bs 157 (addUpto s vs t).toArray) (fun i _ => 8 - (intOf i).toNat)
              case atStart => exact ⟨0, by omega, rfl, grownBy_of_below hb _, BV, BS⟩
              case round =>
                clear hb BW BV BS
                obtain ⟨t, ht8, rfl, hg, BV, BS⟩ := hrel
                by_cases hlt : t < 8
                · obtain ⟨x, y, hx, hy, hat, hset⟩ := add_step s vs t hlt
                  have d1 : wr.cell? ⟨bs, t, none⟩ = some (.int .u32 x) := by rw [BS.cell]; simpa using hat
                  have d2 : wr.cell? ⟨nv, t, none⟩ = some (.int .u32 y) := by rw [BV.cell]; simpa using u32s_at hy
                  have z1 := BS.frozen t
                  have it : (t : Int) < 8 := by omega
                  have hl1 := BV.lt
                  have hl2 := BS.lt
                  have hs1 : Hid (((x : Int) + y) % 4294967296 = (((x + y) % 4294967296 : Nat) : Int)) := by show _ = _; omega
                  have Hset := Lib.hid hset
                  have hne : bs ≠ nv := by omega
                  have hne' := Lib.hid hne
                  clear hx hy hat hset hne
                  go_wp2_with fail
                  refine wp_region_tail 11 (by kernel_rfl) (by kernel_rfl) ?_
                  simp only [List.take_succ_cons, List.take_zero, List.drop_succ_cons, List.drop_zero]
                  repeat (go_big_quiet_step (fail))
                  refine wpQuiet_nil ?_
                  go_wp2_with fail
                  go_roundw
                  case rel =>
                    rw [hs1.out]
                    refine ⟨t + 1, by omega, by go_num, grownBy_trans (grownBy_trans hg (grownBy_setCell_at wr bs t _)) (grownBy_of_below (bDr (bRefl _)) _), (BV.far (p := ⟨bs, t, none⟩) (Ne.symm hne'.out) _).below (bDr (bRefl _)) (by simpa [World.setCell] using hl1), ?_⟩
                    have h := BS.set_ t (.int .u32 ((x + y) % 4294967296 : Nat))
                    rw [List.setIfInBounds_toArray, Hset.out] at h
                    exact h.below (bDr (bRefl _)) h.lt
                  case measure => simp [intOf]; omega
                · have ht : t = 8 := by omega
                  rw [ht] at BS
                  clear ht
                  go_wp2_with fail
                  go_end0
                  refine ⟨rfl, hg, ?_⟩
                  have e : addUpto s vs 8 = u32s (blockS s l).list := by
                    unfold blockS
                    rw [← hWe'.out, ← HVS.out]; rfl
                  rw [← e]
                  exact BS

end Go.Proofs.YthgppaiiapkdjaaGreatDoor

/-
  The reference's digest: rotations, words.
-/
namespace Go.Proofs.YthgppaiiapkdjaaGreatDoor
open Go.RowKit

theorem or_shift2 (v a m d : Nat) (h0 : v < 4294967296) (hm : 2 ^ (32 - a) = m) (hd : 2 ^ a = d) : bits BinOp.or IntKind.u32 ((v : Int) / (d : Nat)) ((v : Int) * (m : Nat) % 4294967296) = ((rotN v a : Nat) : Int) := by
  have e1 : ((v : Int) * (m : Nat) % 4294967296) = ((v * m % 4294967296 : Nat) : Int) := by simp
  have e2 : ((v : Int) / (d : Nat)) = ((v / d : Nat) : Int) := by simp
  rw [e1, e2, u32_or_nat _ _ (Nat.lt_of_le_of_lt (Nat.div_le_self _ _) h0) (Nat.mod_lt _ (by decide))]
  unfold rotN
  rw [hm, hd, Nat.or_comm]
theorem ror_7 (v : Nat) (W : World) (h1 : v < 4294967296) : Calls Tryz.prog 129 #[.int .u32 v, .int .i64 7] W (Ret (.int .u32 (rotN v 7 : Nat)) W) := by
  have ho := Lib.hid (or_shift2 v 7 33554432 128 h1 (by decide) (by decide))
  go_enter Tryz.func129, Tryz.ntmps129
  go_upto_region 1 with fail
  go_quiet (fail)
  go_wp2_with fail
  go_ret
  exact ⟨congrArg (fun n => Ending.returned (.int .u32 n)) ho.out, bDrN (bRefl W) nq⟩
theorem ror_18 (v : Nat) (W : World) (h1 : v < 4294967296) : Calls Tryz.prog 129 #[.int .u32 v, .int .i64 18] W (Ret (.int .u32 (rotN v 18 : Nat)) W) := by
  have ho := Lib.hid (or_shift2 v 18 16384 262144 h1 (by decide) (by decide))
  go_enter Tryz.func129, Tryz.ntmps129
  go_upto_region 1 with fail
  go_quiet (fail)
  go_wp2_with fail
  go_ret
  exact ⟨congrArg (fun n => Ending.returned (.int .u32 n)) ho.out, bDrN (bRefl W) nq⟩
theorem ror_17 (v : Nat) (W : World) (h1 : v < 4294967296) : Calls Tryz.prog 129 #[.int .u32 v, .int .i64 17] W (Ret (.int .u32 (rotN v 17 : Nat)) W) := by
  have ho := Lib.hid (or_shift2 v 17 32768 131072 h1 (by decide) (by decide))
  go_enter Tryz.func129, Tryz.ntmps129
  go_upto_region 1 with fail
  go_quiet (fail)
  go_wp2_with fail
  go_ret
  exact ⟨congrArg (fun n => Ending.returned (.int .u32 n)) ho.out, bDrN (bRefl W) nq⟩
theorem ror_19 (v : Nat) (W : World) (h1 : v < 4294967296) : Calls Tryz.prog 129 #[.int .u32 v, .int .i64 19] W (Ret (.int .u32 (rotN v 19 : Nat)) W) := by
  have ho := Lib.hid (or_shift2 v 19 8192 524288 h1 (by decide) (by decide))
  go_enter Tryz.func129, Tryz.ntmps129
  go_upto_region 1 with fail
  go_quiet (fail)
  go_wp2_with fail
  go_ret
  exact ⟨congrArg (fun n => Ending.returned (.int .u32 n)) ho.out, bDrN (bRefl W) nq⟩
theorem ror_6 (v : Nat) (W : World) (h1 : v < 4294967296) : Calls Tryz.prog 129 #[.int .u32 v, .int .i64 6] W (Ret (.int .u32 (rotN v 6 : Nat)) W) := by
  have ho := Lib.hid (or_shift2 v 6 67108864 64 h1 (by decide) (by decide))
  go_enter Tryz.func129, Tryz.ntmps129
  go_upto_region 1 with fail
  go_quiet (fail)
  go_wp2_with fail
  go_ret
  exact ⟨congrArg (fun n => Ending.returned (.int .u32 n)) ho.out, bDrN (bRefl W) nq⟩
theorem ror_11 (v : Nat) (W : World) (h1 : v < 4294967296) : Calls Tryz.prog 129 #[.int .u32 v, .int .i64 11] W (Ret (.int .u32 (rotN v 11 : Nat)) W) := by
  have ho := Lib.hid (or_shift2 v 11 2097152 2048 h1 (by decide) (by decide))
  go_enter Tryz.func129, Tryz.ntmps129
  go_upto_region 1 with fail
  go_quiet (fail)
  go_wp2_with fail
  go_ret
  exact ⟨congrArg (fun n => Ending.returned (.int .u32 n)) ho.out, bDrN (bRefl W) nq⟩
theorem ror_25 (v : Nat) (W : World) (h1 : v < 4294967296) : Calls Tryz.prog 129 #[.int .u32 v, .int .i64 25] W (Ret (.int .u32 (rotN v 25 : Nat)) W) := by
  have ho := Lib.hid (or_shift2 v 25 128 33554432 h1 (by decide) (by decide))
  go_enter Tryz.func129, Tryz.ntmps129
  go_upto_region 1 with fail
  go_quiet (fail)
  go_wp2_with fail
  go_ret
  exact ⟨congrArg (fun n => Ending.returned (.int .u32 n)) ho.out, bDrN (bRefl W) nq⟩
theorem ror_2 (v : Nat) (W : World) (h1 : v < 4294967296) : Calls Tryz.prog 129 #[.int .u32 v, .int .i64 2] W (Ret (.int .u32 (rotN v 2 : Nat)) W) := by
  have ho := Lib.hid (or_shift2 v 2 1073741824 4 h1 (by decide) (by decide))
  go_enter Tryz.func129, Tryz.ntmps129
  go_upto_region 1 with fail
  go_quiet (fail)
  go_wp2_with fail
  go_ret
  exact ⟨congrArg (fun n => Ending.returned (.int .u32 n)) ho.out, bDrN (bRefl W) nq⟩
theorem ror_13 (v : Nat) (W : World) (h1 : v < 4294967296) : Calls Tryz.prog 129 #[.int .u32 v, .int .i64 13] W (Ret (.int .u32 (rotN v 13 : Nat)) W) := by
  have ho := Lib.hid (or_shift2 v 13 524288 8192 h1 (by decide) (by decide))
  go_enter Tryz.func129, Tryz.ntmps129
  go_upto_region 1 with fail
  go_quiet (fail)
  go_wp2_with fail
  go_ret
  exact ⟨congrArg (fun n => Ending.returned (.int .u32 n)) ho.out, bDrN (bRefl W) nq⟩
theorem ror_22 (v : Nat) (W : World) (h1 : v < 4294967296) : Calls Tryz.prog 129 #[.int .u32 v, .int .i64 22] W (Ret (.int .u32 (rotN v 22 : Nat)) W) := by
  have ho := Lib.hid (or_shift2 v 22 1024 4194304 h1 (by decide) (by decide))
  go_enter Tryz.func129, Tryz.ntmps129
  go_upto_region 1 with fail
  go_quiet (fail)
  go_wp2_with fail
  go_ret
  exact ⟨congrArg (fun n => Ending.returned (.int .u32 n)) ho.out, bDrN (bRefl W) nq⟩
theorem word_int (a b c d : Nat) (ha : a < 256) (hb : b < 256) (hc : c < 256) (hd : d < 256) :
    bits BinOp.or IntKind.u32 (bits BinOp.or IntKind.u32 (bits BinOp.or IntKind.u32 ((a : Int) * 16777216) ((b : Int) * 65536)) ((c : Int) * 256)) (d : Int) = ((wordN a b c d : Nat) : Int) := by
  have e1 : ((a : Int) * 16777216) = ((a * 16777216 : Nat) : Int) := by omega
  have e2 : ((b : Int) * 65536) = ((b * 65536 : Nat) : Int) := by omega
  have e3 : ((c : Int) * 256) = ((c * 256 : Nat) : Int) := by omega
  have s : ∀ (n m i : Nat), m < 2 ^ i → n * 2 ^ i ||| m = n * 2 ^ i + m := fun n m i h => by
    have := Nat.shiftLeft_add_eq_or_of_lt h n
    rw [Nat.shiftLeft_eq] at this
    exact this.symm
  have o1 : a * 16777216 ||| b * 65536 = (a * 256 + b) * 65536 := by
    have := s a (b * 65536) 24 (by omega)
    rw [show (2 : Nat) ^ 24 = 16777216 from rfl] at this
    rw [this]
    omega
  have o2 : (a * 256 + b) * 65536 ||| c * 256 = ((a * 256 + b) * 256 + c) * 256 := by
    have := s (a * 256 + b) (c * 256) 16 (by omega)
    rw [show (2 : Nat) ^ 16 = 65536 from rfl] at this
    rw [this]
    omega
  have o3 : ((a * 256 + b) * 256 + c) * 256 ||| d = wordN a b c d := by
    have := s ((a * 256 + b) * 256 + c) d 8 (by omega)
    rw [show (2 : Nat) ^ 8 = 256 from rfl] at this
    rw [this]
    unfold wordN
    omega
  rw [e1, e2, e3, u32_or_nat _ _ (by omega) (by omega), o1, u32_or_nat _ _ (by omega) (by omega), o2, u32_or_nat _ _ (by omega) (by omega), o3]
theorem ref_word (b off c : Nat) (x0 x1 x2 x3 : Nat) (W : World) (h0 : W.cell? ⟨b, off, none⟩ = some (.int .u8 x0)) (h1 : W.cell? ⟨b, off + 1, none⟩ = some (.int .u8 x1)) (h2 : W.cell? ⟨b, off + 2, none⟩ = some (.int .u8 x2)) (h3 : W.cell? ⟨b, off + 3, none⟩ = some (.int .u8 x3))
    (l0 : x0 < 256) (l1 : x1 < 256) (l2 : x2 < 256) (l3 : x3 < 256) : Calls Tryz.prog 128 #[.slice (some ⟨b, off, none⟩) 4 c] W (Ret (.int .u32 (wordN x0 x1 x2 x3 : Nat)) W) := by
  have ho := Lib.hid (word_int x0 x1 x2 x3 l0 l1 l2 l3)
  have e0 : ((x0 : Int) * 16777216) % 4294967296 = (x0 : Int) * 16777216 := by omega
  have e1 : ((x1 : Int) * 65536) % 4294967296 = (x1 : Int) * 65536 := by omega
  have e2 : ((x2 : Int) * 256) % 4294967296 = (x2 : Int) * 256 := by omega
  have c0 : (x0 : Int) % 4294967296 = x0 := by omega
  have c1 : (x1 : Int) % 4294967296 = x1 := by omega
  have c2 : (x2 : Int) % 4294967296 = x2 := by omega
  have c3 : (x3 : Int) % 4294967296 = x3 := by omega
  clear l0 l1 l2 l3
  go_enter Tryz.func128, Tryz.ntmps128
  go_upto_region 1 with fail
  go_quiet (fail)
  go_wp2_with fail
  go_ret
  exact ⟨congrArg (fun n => Ending.returned (.int .u32 n)) ho.out, bDrN (bRefl W) nq⟩
end Go.Proofs.YthgppaiiapkdjaaGreatDoor

/-
  A region that draws its order: a condition on the world that need hold only UNTIL a named operation (a store) has come up:
  what is read ahead of that store, in every order, may be taken first, though the store writes that very cell.
-/
namespace Go.Proofs.YthgppaiiapkdjaaGreatDoor
open Go

section
variable {P : Program} {ops : Array Oper} {Q : Exit → Act → World → Prop} {md : Region.Mode} {S : World → Prop} {f : Nat}

def wpAnyU (P : Program) (md : Region.Mode) (ops : Array Oper) (Q : Exit → Act → World → Prop) (S : World → Prop) (f : Nat) : Nat → Array Bool → Act → World → Prop
  | 0, listed, a, w => Region.ready md ops listed = [] ∧ Q .normal a w
  | g + 1, listed, a, w => (Region.ready md ops listed = [] → Q .normal a w) ∧
    ∀ i ∈ Region.ready md ops listed, wpOp P ops Q i (fun a' w' => ((listed.setIfInBounds i true).getD f true = false → S w') ∧ wpAnyU P md ops Q S f g (listed.setIfInBounds i true) a' w') a w

theorem wpAny_of_until : ∀ (g : Nat) (listed : Array Bool) (a : Act) (w : World), wpAnyU P md ops Q S f g listed a w → wpAny P md ops Q g listed a w
  | 0, _, _, _, h => h
  | g + 1, _, _, _, h => ⟨h.1, fun i hi => wpOp_mono (fun a' w' h' => wpAny_of_until g _ a' w' h'.2) (h.2 i hi)⟩

/-- What has come up, has come up behind what it waits for. -/
def Clo (md : Region.Mode) (ops : Array Oper) (listed : Array Bool) : Prop :=
  listed.size = ops.size ∧ ∀ j oj, ops[j]? = some oj → listed.getD j false = true → ∀ e ∈ oj.after, Region.binds md e = true → listed.getD e.on false = true
def cloB (md : Region.Mode) (ops : Array Oper) (listed : Array Bool) : Bool :=
  decide (listed.size = ops.size) && (List.range ops.size).all fun j => !(listed.getD j false) || match ops[j]? with
    | some oj => oj.after.all fun e => !(Region.binds md e) || listed.getD e.on false
    | none => true
theorem clo_spec {listed : Array Bool} (h : cloB md ops listed = true) : Clo md ops listed := by
  simp only [cloB, Bool.and_eq_true, decide_eq_true_eq, List.all_eq_true, List.mem_range] at h
  refine ⟨h.1, fun j oj hj hl e he hb => ?_⟩
  have h1 := h.2 j (Array.getElem?_eq_some_iff.1 hj).1
  simp only [hl, hj, Bool.not_true, Bool.false_or, Array.all_eq_true_iff_forall_mem] at h1
  have h2 := h1 e he
  simpa [hb] using h2
theorem Clo.set {i : Nat} {listed : Array Bool} (inv : Clo md ops listed) (hi : i ∈ Region.ready md ops listed) : Clo md ops (listed.setIfInBounds i true) := by
  obtain ⟨_, oi, hoi, hall⟩ := mem_ready.1 hi
  refine ⟨by simp [inv.1], fun j oj hj hl e he hb => ?_⟩
  by_cases hij : i = j
  · subst hij
    have : oj = oi := Option.some.inj (hj.symm.trans hoi)
    subst this
    exact getD_set_true (hall e he hb)
  · rw [getD_set_ne false hij] at hl
    exact getD_set_true (inv.2 j oj hj hl e he hb)

/-- A road from i to f: each waits for the one before. -/
def roadB (md : Region.Mode) (ops : Array Oper) (f : Nat) : Nat → List Nat → Bool
  | i, [] => i == f
  | i, j :: l => Region.waitsFor md ops j i && roadB md ops f j l
theorem road_spec {listed : Array Bool} (hc : Clo md ops listed) : ∀ (l : List Nat) (i : Nat), roadB md ops f i l = true → listed.getD i true = false → listed.getD f true = false
  | [], i, h, hu => by
    have : i = f := by simpa [roadB] using h
    exact this ▸ hu
  | j :: l, i, h, hu => by
    simp only [roadB, Bool.and_eq_true] at h
    obtain ⟨oj, hoj, e, he, hb, hon⟩ := Region.waitsFor_spec h.1
    refine road_spec hc l j h.2 (getD_in (by rw [hc.1]; exact (Array.getElem?_eq_some_iff.1 hoj).1) ?_)
    cases hl : listed.getD j false with
    | false => rfl
    | true =>
      have h2 := hc.2 j oj hoj hl e he hb
      rw [hon, getD_both hu] at h2
      cases h2

theorem wpAnyU_first {i : Nat} {oi : Oper} {v : Value} {T : World → Prop} (hi : ops[i]? = some oi) (hsel : ∀ (j : Nat) (o : Oper) cs b, ops[j]? = some o → o.op ≠ .select cs b)
    (hQ : ∀ c a w, Q (.panic c) (a.put oi.dst v) w → Q (.panic c) a w) (hif : i ≠ f) (hT : ∀ listed w, Clo md ops listed → listed.getD i true = false → (listed.getD f true = false → S w) → T w) :
    ∀ (g : Nat) (listed : Array Bool) (a : Act) (w : World), Clo md ops listed →
      (∀ j oj, ops[j]? = some oj → j ≠ i → listed.getD j true = false → (∀ e ∈ oj.after, Region.binds md e = true → e.on ≠ i) → oi.apart ops oj = true) →
      i ∈ Region.ready md ops listed → YieldsIf P ops T oi v a → (listed.getD f true = false → S w) →
      wpAnyU P md ops Q S f g (listed.setIfInBounds i true) (a.put oi.dst v) w → wpAnyU P md ops Q S f (g + 1) listed a w := by
  intro g
  induction g with
  | zero =>
    intro listed a w hc _ hr hy hS H
    have hS' := hT _ _ hc (mem_ready.1 hr).1 hS
    refine ⟨fun h => (by rw [h] at hr; cases hr), fun j hj => ?_⟩
    by_cases hji : j = i
    · subst hji; exact hy.wpOp hi hS' ⟨fun hf => hS (by rw [getD_set_ne true hif] at hf; exact hf), H⟩
    · have := ready_mono hj hji
      rw [H.1] at this
      cases this
  | succ g ih =>
    intro listed a w hc hfree hr hy hS H
    have hun := (mem_ready.1 hr).1
    have hS' := hT _ _ hc hun hS
    refine ⟨fun h => (by rw [h] at hr; cases hr), fun j hj => ?_⟩
    by_cases hji : j = i
    · subst hji; exact hy.wpOp hi hS' ⟨fun hf => hS (by rw [getD_set_ne true hif] at hf; exact hf), H⟩
    · have h1 := H.2 j (ready_mono hj hji)
      obtain ⟨hjun, oj, hoj, hall⟩ := mem_ready.1 hj
      have hnot : ∀ e ∈ oj.after, Region.binds md e = true → e.on ≠ i := fun e he hb heq => by
        have h1 := hall e he hb
        rw [heq, getD_both hun] at h1
        cases h1
      have h2 := wpOp_putIf hoj (hfree j oj hoj hji hjun hnot) (fun cs b => hsel i oi cs b hi) (fun cs b => hsel j oj cs b hoj) hQ hy h1
      have hfree' : ∀ k ok, ops[k]? = some ok → k ≠ i → (listed.setIfInBounds j true).getD k true = false →
          (∀ e ∈ ok.after, Region.binds md e = true → e.on ≠ i) → oi.apart ops ok = true := fun k ok hk hki hun hno => by
        refine hfree k ok hk hki ?_ hno
        by_cases hjk : j = k
        · subst hjk; exact hjun
        · rw [getD_set_ne true hjk] at hun; exact hun
      refine wpOp_mono (fun a' w' h3 => ?_) h2
      have hS2 : (listed.setIfInBounds j true).getD f true = false → S w' := fun hf => by
        apply h3.2.1
        rw [Array.setIfInBounds_comm _ _ (Ne.symm hji), getD_set_ne true hif]
        exact hf
      refine ⟨hS2, ih (listed.setIfInBounds j true) a' w' (hc.set hj) hfree' (ready_mono hr (Ne.symm hji)) h3.1 hS2 ?_⟩
      rw [Array.setIfInBounds_comm _ _ hji]
      exact h3.2.2

theorem wpAnyU_take {i : Nat} {oi : Oper} {v : Value} {g : Nat} {listed : Array Bool} {a : Act} {w : World} (road : List Nat) (hi : ops[i]? = some oi)
    (hs : Region.noSelect ops = true) (hf : Region.free md ops listed i = true) (hr : (Region.ready md ops listed).contains i = true) (hc : cloB md ops listed = true) (hroad : (decide (i ≠ f) && roadB md ops f i road) = true)
    (hQ : ∀ c a w, Q (.panic c) (a.put oi.dst v) w → Q (.panic c) a w) (hy : YieldsIf P ops S oi v a) (hS : S w)
    (h : wpAnyU P md ops Q S f g (listed.setIfInBounds i true) (a.put oi.dst v) w) : wpAnyU P md ops Q S f (g + 1) listed a w := by
  simp only [Bool.and_eq_true, decide_eq_true_eq] at hroad
  exact wpAnyU_first (T := S) hi (Region.noSelect_spec hs) hQ hroad.1 (fun l w hc hu hS => hS (road_spec hc road i hroad.2 hu)) g listed a w (clo_spec hc) (Region.free_spec hi hf) (by simpa using hr) hy (fun _ => hS) h

/-- What hangs on no world. -/
theorem wpAnyU_take0 {i : Nat} {oi : Oper} {v : Value} {g : Nat} {listed : Array Bool} {a : Act} {w : World} (hi : ops[i]? = some oi)
    (hs : Region.noSelect ops = true) (hf : Region.free md ops listed i = true) (hr : (Region.ready md ops listed).contains i = true) (hc : (cloB md ops listed && decide (i ≠ f)) = true)
    (hQ : ∀ c a w, Q (.panic c) (a.put oi.dst v) w → Q (.panic c) a w) (hy : YieldsIf P ops (fun _ => True) oi v a) (hS : (!(listed.getD f true)) = true → S w)
    (h : wpAnyU P md ops Q S f g (listed.setIfInBounds i true) (a.put oi.dst v) w) : wpAnyU P md ops Q S f (g + 1) listed a w := by
  simp only [Bool.and_eq_true, decide_eq_true_eq] at hc
  exact wpAnyU_first (T := fun _ => True) hi (Region.noSelect_spec hs) hQ hc.2 (fun _ _ _ _ _ => trivial) g listed a w (clo_spec hc.1) (Region.free_spec hi hf) (by simpa using hr) hy (fun hf => hS (by rw [hf]; rfl)) h

theorem wpAnyU_done {listed : Array Bool} {a : Act} {w : World} (hr : Region.ready md ops listed = []) (h : Q .normal a w) : ∀ g, wpAnyU P md ops Q S f g listed a w
  | 0 => ⟨hr, h⟩
  | _ + 1 => ⟨fun _ => h, by rw [hr]; simp⟩

theorem wp_region_until {id : Nat} {a : Act} {w : World} (S : World → Prop) (f : Nat) (hm : P.follows .mixedOrders = true) (hS : S w.drew)
    (h : S w.drew → wpAnyU P .any ops Q S f ops.size (Array.replicate ops.size false) a w.drew) : (Code.region id ops true).wp P Q a w :=
  wp_region_any hm (wpAny_of_until _ _ _ _ (h hS))

/-- The one that may come up, comes up; the condition is shown anew. -/
theorem wpAnyU_one {i : Nat} {o : Oper} {g : Nat} {listed : Array Bool} {a : Act} {w : World} (hr : Region.ready md ops listed = [i]) (ho : ops[i]? = some o)
    (h : ∀ K' : Act → World → Prop, Shut (∀ a w, S w → (S w → wpAnyU P md ops Q S f g (listed.setIfInBounds i true) a w) → K' a w) → if Region.wanted o (yielded ops a.tmps) = true then Oper.wp P o a w K' Q else K' (a.put o.dst undef) w) :
    wpAnyU P md ops Q S f (g + 1) listed a w := by
  refine ⟨fun h0 => (by rw [hr] at h0; cases h0), fun j hj => ?_⟩
  rw [hr] at hj
  obtain rfl : j = i := by simpa using hj
  exact wpOp_step ho (fun K' hK => h K' (fun a w hS hW => hK a w ⟨fun _ => hS, hW hS⟩))
/-- The same, from the named operation on. -/
theorem wpAnyU_end {i : Nat} {o : Oper} {g : Nat} {listed : Array Bool} {a : Act} {w : World} (hr : Region.ready md ops listed = [i]) (ho : ops[i]? = some o) (hf : (listed.setIfInBounds i true).getD f true = true)
    (h : ∀ K' : Act → World → Prop, Shut (∀ a w, wpAnyU P md ops Q S f g (listed.setIfInBounds i true) a w → K' a w) → if Region.wanted o (yielded ops a.tmps) = true then Oper.wp P o a w K' Q else K' (a.put o.dst undef) w) :
    wpAnyU P md ops Q S f (g + 1) listed a w := by
  refine ⟨fun h0 => (by rw [hr] at h0; cases h0), fun j hj => ?_⟩
  rw [hr] at hj
  obtain rfl : j = i := by simpa using hj
  exact wpOp_step ho (fun K' hK => h K' (fun a w hW => hK a w ⟨fun h0 => (by rw [hf] at h0; cases h0), hW⟩))

/-- A road, looked for. -/
def findRoad (md : Region.Mode) (ops : Array Oper) (f : Nat) : Nat → Nat → List Nat
  | 0, _ => []
  | d + 1, i => if Region.waitsFor md ops f i then [f] else
    match (List.range f).find? (fun j => decide (i < j) && Region.waitsFor md ops j i && !(findRoad md ops f d j).isEmpty) with
    | some j => j :: findRoad md ops f d j
    | none => []


/-! ### The whole region: a mask says of each operation: 0 in the forced order, 1 hangs on no world, 2 is read ahead of the named operation. -/
def pickH : List Nat → List Oper → List (Bool × Oper)
  | 0 :: m, _ :: l => pickH m l
  | 1 :: m, o :: l => (false, o) :: pickH m l
  | _ :: m, o :: l => (true, o) :: pickH m l
  | _, _ => []
def pickT : List Nat → List Oper → List Oper
  | 0 :: m, o :: l => o :: pickT m l
  | (_ + 1) :: m, _ :: l => pickT m l
  | _, _ => []
def wpHeads (P : Program) (ops : Array Oper) (S : World → Prop) (K : Act → Prop) : List (Bool × Oper) → Act → Prop
  | [], a => K a
  | (b, o) :: l, a => ∃ v, YieldsIf P ops (bif b then S else fun _ => True) o v a ∧ wpHeads P ops S K l (a.put o.dst v)
def wpTailS (P : Program) (ops : Array Oper) (Q : Exit → Act → World → Prop) (S : World → Prop) : Nat → List Oper → Act → World → Prop
  | n + 1, o :: l, a, w => if Region.wanted o (yielded ops a.tmps) = true then Oper.wp P o a w (fun a' w' => S w' ∧ wpTailS P ops Q S n l a' w') Q else (S w ∧ wpTailS P ops Q S n l (a.put o.dst undef) w)
  | _, l, a, w => wpList P ops Q l a w

def headsOk (md : Region.Mode) (ops : Array Oper) (f : Nat) : List Nat → Nat → Array Bool → Bool
  | [], _, _ => true
  | 0 :: m, k, listed => headsOk md ops f m (k + 1) listed
  | 1 :: m, k, listed => (Region.ready md ops listed).contains k && Region.free md ops listed k && cloB md ops listed && decide (k ≠ f) && headsOk md ops f m (k + 1) (listed.setIfInBounds k true)
  | _ :: m, k, listed => (Region.ready md ops listed).contains k && Region.free md ops listed k && cloB md ops listed && decide (k ≠ f) && roadB md ops f k (findRoad md ops f 6 k) && headsOk md ops f m (k + 1) (listed.setIfInBounds k true)
def headsEnd : List Nat → Nat → Array Bool → Array Bool
  | [], _, listed => listed
  | 0 :: m, k, listed => headsEnd m (k + 1) listed
  | (_ + 1) :: m, k, listed => headsEnd m (k + 1) (listed.setIfInBounds k true)
def headsN : List Nat → Nat
  | [] => 0
  | 0 :: m => headsN m
  | (_ + 1) :: m => headsN m + 1
def tailsN : List Nat → Nat
  | [] => 0
  | 0 :: m => tailsN m + 1
  | (_ + 1) :: m => tailsN m
def tailOk (md : Region.Mode) (ops : Array Oper) (f : Nat) : Nat → List Nat → Nat → Array Bool → Bool
  | _, [], _, listed => (Region.ready md ops listed).isEmpty
  | 0, 0 :: m, k, listed => decide (Region.ready md ops listed = [k]) && (listed.setIfInBounds k true).getD f true && tailOk md ops f 0 m (k + 1) (listed.setIfInBounds k true)
  | n + 1, 0 :: m, k, listed => decide (Region.ready md ops listed = [k]) && tailOk md ops f n m (k + 1) (listed.setIfInBounds k true)
  | n, (_ + 1) :: m, k, listed => tailOk md ops f n m (k + 1) listed

theorem heads_any (hs : Region.noSelect ops = true) (hQ : ∀ d v c a w, Q (.panic c) (Act.put a d v) w → Q (.panic c) a w) {K : Act → Prop} {w : World} (hS : S w) (g : Nat) : ∀ (m : List Nat) (l : List Oper) (k : Nat) (listed : Array Bool) (a : Act),
    m.length = l.length → (∀ j, j < l.length → l[j]? = ops[k + j]?) → headsOk md ops f m k listed = true → wpHeads P ops S K (pickH m l) a →
    (∀ a', K a' → wpAnyU P md ops Q S f g (headsEnd m k listed) a' w) → wpAnyU P md ops Q S f (g + headsN m) listed a w
  | [], _, _, _, a, _, _, _, h, hK => hK a h
  | _ :: _, [], _, _, _, hl, _, _, _, _ => by cases hl
  | t :: m, o :: l, k, listed, a, hl, hlj, hB, h, hK => by
    have ho : ops[k]? = some o := by simpa using (hlj 0 (by simp)).symm
    have hl' : m.length = l.length := by simpa using hl
    have hlj' : ∀ j, j < l.length → l[j]? = ops[k + 1 + j]? := fun j hj => by have := hlj (j + 1) (by simp; omega); simpa [Nat.add_assoc, Nat.add_comm 1 j] using this
    match t, hB, h, hK with
    | 0, hB, h, hK => exact heads_any hs hQ hS g m l (k + 1) listed a hl' hlj' hB h hK
    | 1, hB, h, hK =>
      simp only [headsOk, Bool.and_eq_true, decide_eq_true_eq] at hB
      obtain ⟨⟨⟨⟨h1, h2⟩, h3⟩, h4⟩, h5⟩ := hB
      obtain ⟨v, hv, h⟩ := h
      exact wpAnyU_first (T := fun _ => True) ho (Region.noSelect_spec hs) (hQ _ _) h4 (fun _ _ _ _ _ => trivial) (g + headsN m) listed a w (clo_spec h3) (Region.free_spec ho h2) (by simpa using h1) hv (fun _ => hS)
        (heads_any hs hQ hS g m l (k + 1) _ _ hl' hlj' h5 h hK)
    | t + 2, hB, h, hK =>
      simp only [headsOk, Bool.and_eq_true, decide_eq_true_eq] at hB
      obtain ⟨⟨⟨⟨⟨h1, h2⟩, h3⟩, h4⟩, h6⟩, h5⟩ := hB
      obtain ⟨v, hv, h⟩ := h
      exact wpAnyU_first (T := S) ho (Region.noSelect_spec hs) (hQ _ _) h4 (fun _ _ hc hu hS => hS (road_spec hc _ k h6 hu)) (g + headsN m) listed a w (clo_spec h3) (Region.free_spec ho h2) (by simpa using h1) hv (fun _ => hS)
        (heads_any hs hQ hS g m l (k + 1) _ _ hl' hlj' h5 h hK)

theorem tail_any : ∀ (m : List Nat) (n : Nat) (l : List Oper) (k : Nat) (listed : Array Bool) (a : Act) (w : World),
    m.length = l.length → (∀ j, j < l.length → l[j]? = ops[k + j]?) → tailOk md ops f n m k listed = true → wpTailS P ops Q S n (pickT m l) a w → wpAnyU P md ops Q S f (tailsN m) listed a w
  | [], n, _, _, _, a, w, _, _, hB, h => by
    refine wpAnyU_done (by cases n <;> simpa [tailOk] using hB) ?_ _
    cases n <;> simpa [pickT, wpTailS, wpList] using h
  | _ :: _, _, [], _, _, _, _, hl, _, _, _ => by cases hl
  | t :: m, n, o :: l, k, listed, a, w, hl, hlj, hB, h => by
    have ho : ops[k]? = some o := by simpa using (hlj 0 (by simp)).symm
    have hl' : m.length = l.length := by simpa using hl
    have hlj' : ∀ j, j < l.length → l[j]? = ops[k + 1 + j]? := fun j hj => by have := hlj (j + 1) (by simp; omega); simpa [Nat.add_assoc, Nat.add_comm 1 j] using this
    match t, n, hB, h with
    | 0, 0, hB, h =>
      simp only [tailOk, Bool.and_eq_true, decide_eq_true_eq] at hB
      refine ⟨fun h0 => (by rw [hB.1.1] at h0; cases h0), fun j hj => ?_⟩
      rw [hB.1.1] at hj
      obtain rfl : j = k := by simpa using hj
      have hw : wpOp P ops Q j (wpList P ops Q (pickT m l)) a w := by unfold wpOp; simp only [ho]; exact h
      exact wpOp_mono (fun a' w' h' => ⟨fun h0 => (by rw [hB.1.2] at h0; cases h0), tail_any m 0 l (j + 1) _ a' w' hl' hlj' hB.2 (by cases hp : pickT m l <;> simpa [wpTailS, hp] using h')⟩) hw
    | 0, n + 1, hB, h =>
      simp only [tailOk, Bool.and_eq_true, decide_eq_true_eq] at hB
      refine ⟨fun h0 => (by rw [hB.1] at h0; cases h0), fun j hj => ?_⟩
      rw [hB.1] at hj
      obtain rfl : j = k := by simpa using hj
      have hw : wpOp P ops Q j (fun a' w' => S w' ∧ wpTailS P ops Q S n (pickT m l) a' w') a w := by
        simp only [pickT, wpTailS] at h
        unfold wpOp
        simp only [ho]
        split at h
        · rename_i c; rw [if_pos c]; exact .inl h
        · rename_i c; rw [if_neg c]; exact h
      exact wpOp_mono (fun a' w' h' => ⟨fun _ => h'.1, tail_any m n l (j + 1) _ a' w' hl' hlj' hB.2 h'.2⟩) hw
    | t + 1, n, hB, h => exact tail_any m n l (k + 1) listed a w hl' hlj' (by cases n <;> exact hB) h

def untilOk (md : Region.Mode) (ops : Array Oper) (f : Nat) (n : Nat) (m : List Nat) : Bool :=
  Region.noSelect ops && decide (m.length = ops.size) && headsOk md ops f m 0 (Array.replicate ops.size false) && tailOk md ops f n m 0 (headsEnd m 0 (Array.replicate ops.size false))
theorem mask_len : ∀ m : List Nat, tailsN m + headsN m = m.length
  | [] => rfl
  | 0 :: m => by simp only [tailsN, headsN, List.length_cons]; have := mask_len m; omega
  | (_ + 1) :: m => by simp only [tailsN, headsN, List.length_cons]; have := mask_len m; omega
/-- The region. -/
theorem wp_region_mask {id : Nat} {l : List Oper} {a : Act} {w : World} (S : World → Prop) (f n : Nat) (m : List Nat) (hm : P.follows .mixedOrders = true) (hB : untilOk .any l.toArray f n m = true)
    (hS : S w.drew)
    (h : wpHeads P l.toArray S (fun a' => wpTailS P l.toArray (NoPanic Q) S n (pickT m l) a' w.drew) (pickH m l) a) : (Code.region id l.toArray true).wp P Q a w := by
  simp only [untilOk, Bool.and_eq_true, decide_eq_true_eq] at hB
  obtain ⟨⟨⟨h1, h2⟩, h3⟩, h4⟩ := hB
  have hl : m.length = l.length := by simpa using h2
  refine wp_region_noPanic (wp_region_any hm ?_)
  have := heads_any (md := .any) (f := f) (Q := NoPanic Q) h1 (fun _ _ _ _ _ h => h) hS (tailsN m) m l 0 _ a hl (fun j _ => by simp) h3 h (fun a' h' => tail_any m n l 0 _ a' w.drew hl (fun j _ => by simp) h4 h')
  have := wpAny_of_until _ _ _ _ this
  rw [mask_len, h2] at this
  exact this
theorem wpHeads_cons {K : Act → Prop} {b : Bool} {o : Oper} {l : List (Bool × Oper)} {a : Act} {v : Value} (hw : Region.wanted o (yielded ops a.tmps) = true) (hv : ∀ w, (bif b then S else fun _ => True) w → (execOp a.eval o).run P w = .ok (.value v) w)
    (h : wpHeads P ops S K l (a.put o.dst v)) : wpHeads P ops S K ((b, o) :: l) a := ⟨v, .inl ⟨hw, hv⟩, h⟩
theorem wpTailS_cons {n : Nat} {o : Oper} {l : List Oper} {a : Act} {w : World}
    (h : ∀ K' : Act → World → Prop, Shut (∀ a w, S w → (S w → wpTailS P ops Q S n l a w) → K' a w) → if Region.wanted o (yielded ops a.tmps) = true then Oper.wp P o a w K' Q else K' (a.put o.dst undef) w) :
    wpTailS P ops Q S (n + 1) (o :: l) a w := h _ (fun _ _ hS hW => ⟨hS, hW hS⟩)
theorem wpTailS_zero {l : List Oper} {a : Act} {w : World} (h : wpList P ops Q l a w) : wpTailS P ops Q S 0 l a w := by cases l <;> exact h
theorem wpHeads_nil {K : Act → Prop} {a : Act} (h : K a) : wpHeads P ops S K [] a := h
end
end Go.Proofs.YthgppaiiapkdjaaGreatDoor
