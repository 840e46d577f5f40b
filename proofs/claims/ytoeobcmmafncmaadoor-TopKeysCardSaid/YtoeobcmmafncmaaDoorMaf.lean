/-
  SHA-256: Sum, walked.
-/
import Derived.Test.YtoeobcmmafncmaaDoorMae
import Derived.Test.YtoeobcmmafncmaaDoorMaa
import Derived.Laws.AppendOwnNone
import Derived.OwnWalk
namespace Go.Proofs.YtoeobcmmafncmaaDoor
open Go.RowKit

theorem blocksS_add (s : S8) (L : List Nat) (m : Nat) : ∀ j, blocksS s L (m + j) = blocksS (blocksS s L m) (L.drop (64 * m)) j
  | 0 => rfl
  | j + 1 => by
    show blockS (blocksS s L (m + j)) ((L.drop (64 * (m + j))).take 64) = blockS (blocksS (blocksS s L m) (L.drop (64 * m)) j) (((L.drop (64 * m)).drop (64 * j)).take 64)
    rw [blocksS_add s L m j, List.drop_drop, Nat.mul_add]
theorem blocksS_pre (s : S8) (l p : List Nat) : ∀ m, 64 * m ≤ l.length → blocksS s (l ++ p) m = blocksS s l m
  | 0, _ => rfl
  | m + 1, h => by
    show blockS (blocksS s (l ++ p) m) (((l ++ p).drop (64 * m)).take 64) = blockS (blocksS s l m) ((l.drop (64 * m)).take 64)
    rw [blocksS_pre s l p m (by omega), List.drop_append_of_le_length (by omega), List.take_append_of_le_length (by rw [List.length_drop]; omega)]
theorem bytesN_lt (n : Nat) : ∀ k, ∀ x ∈ bytesN n k, x < 256
  | 0, x, h => by cases h
  | k + 1, x, h => by
    rcases List.mem_append.1 h with h | h
    · exact bytesN_lt (n / 256) k x h
    · rw [List.mem_singleton.1 h]; exact Nat.mod_lt _ (by decide)
theorem padN_len (n : Nat) : (padN n).length = 9 + (119 - n % 64) % 64 := by
  unfold padN; simp [bytesN_len]; omega
/-- The end of a text: what is left of it behind its whole blocks, and what is added. -/
def endN (l : List Nat) : List Nat := l.drop (64 * (l.length / 64)) ++ padN l.length
theorem shaN_end (l : List Nat) : shaN l = (blocksS (blocksS shaS l (l.length / 64)) (endN l) (if l.length % 64 ≤ 55 then 1 else 2)).list.flatMap fun v => bytesN v 4 := by
  unfold shaN
  have e : (l.length + 72) / 64 = l.length / 64 + (if l.length % 64 ≤ 55 then 1 else 2) := by split <;> omega
  rw [e, blocksS_add, blocksS_pre _ _ _ _ (by omega), List.drop_append_of_le_length (by omega)]
  rfl
theorem okB_pad (n : Nat) : okB (padN n) := by
  intro x hx
  unfold padN at hx
  simp only [List.mem_cons, List.mem_append, List.mem_replicate] at hx
  rcases hx with rfl | ⟨_, rfl⟩ | hx
  · decide
  · decide
  · exact bytesN_lt _ 8 x hx
theorem okB_app {a b : List Nat} (ha : okB a) (hb : okB b) : okB (a ++ b) := fun x hx => by
  rw [List.mem_append] at hx
  exact hx.elim (ha x) (hb x)
theorem okB_take {l : List Nat} (h : okB l) (k : Nat) : okB (l.take k) := fun x hx => h x (List.mem_of_mem_take hx)

def zerosN (k : Nat) : List Nat := List.replicate k 0
theorem zerosN_len (k : Nat) : (zerosN k).length = k := by simp [zerosN]
theorem zerosN_add (a b : Nat) : zerosN (a + b) = zerosN a ++ zerosN b := by simp [zerosN]
theorem make_end (w : World) : (Instr.makeSlice 24 (.int .i64 64) (.int .i64 128)).run Tryd.prog w = .ok (.slice (some ⟨w.heap.size, 0, none⟩) 64 128) (w.alloc (.cells (byts (zerosN 128)).toArray 5)) := by kernel_rfl

theorem splice_zero {rest : List Nat} : splice (byts (zerosN 128)) 0 (byts rest) = byts (rest ++ zerosN (128 - rest.length)) := by
  unfold splice byts
  rw [List.take_zero, List.nil_append, List.map_append, Nat.zero_add, List.length_map, ← List.map_drop]
  congr 2
  unfold zerosN
  rw [List.drop_replicate]
theorem set_zero {rest : List Nat} {n : Nat} (h : rest.length = n) (h2 : n < 128) : (byts (rest ++ zerosN (128 - n))).set n (.int .u8 128) = byts (rest ++ 128 :: zerosN (127 - n)) := by
  subst h
  have e : 128 - rest.length = (127 - rest.length) + 1 := by omega
  rw [e]
  unfold byts zerosN
  rw [List.replicate_succ, List.map_append, List.set_append_right _ _ (by simp)]
  simp
/-- The end of a text, as it is laid in a row of 128 bytes. -/
theorem endN_form {l rest : List Nat} {r n : Nat} (h : rest = l.drop (64 * (l.length / 64))) (hr : rest.length = r) (hr2 : r = l.length % 64) (hn : l.length = n) :
    Hid (endN l = rest ++ 128 :: (zerosN (if r ≤ 55 then 55 - r else 119 - r) ++ bytesN (n * 8 % 18446744073709551616) 8)) := by
  show _ = _
  unfold endN padN
  rw [← h, ← hr2, hn]
  have : (119 - r) % 64 = if r ≤ 55 then 55 - r else 119 - r := by
    have : r < 64 := by omega
    split <;> omega
  rw [this]; rfl

theorem row_form {rest : List Nat} {a z p : Nat} (h : a = z + 8 + p) : Hid (byts (rest ++ 128 :: zerosN a) = byts (rest ++ 128 :: zerosN z) ++ byts (zerosN 8) ++ byts (zerosN p)) := by
  show _ = _
  subst h
  rw [zerosN_add, zerosN_add]
  simp [byts]

theorem rd_of_blk {w : World} {g off k : Nat} {t : TypeId} {E : List Nat} {p : List Nat} (h : Blk w g t (byts (E ++ p)).toArray) (hk : off + k ≤ E.length) : Rd w w.heap.size 1 (some ⟨g, off, none⟩) k (byts ((E.drop off).take k)) := by
  refine ⟨by rw [byts_length, List.length_take, List.length_drop]; omega, fun _ => ⟨g, off, rfl, h.lt, fun j u hu => ?_⟩⟩
  have hj : j < k := by
    have := (List.getElem?_eq_some_iff.1 hu).1
    rw [byts_length, List.length_take] at this; omega
  rw [h.cell]
  simp only [List.getElem?_toArray]
  unfold byts at hu ⊢
  rw [List.getElem?_map] at hu ⊢
  rw [List.getElem?_take, if_pos hj, List.getElem?_drop] at hu
  rw [List.getElem?_append_left (by omega)]
  exact hu

theorem idx_state (s : S8) (ho : s.ok) (t : Nat) (ht : t < 8) : ∃ v, s.list[t]? = some v ∧ v < 4294967296 ∧ ∀ w : World, (Instr.index 164 (.agg #[.int .u32 s.a, .int .u32 s.b, .int .u32 s.c, .int .u32 s.d, .int .u32 s.e, .int .u32 s.f, .int .u32 s.g, .int .u32 s.h]) (.int .i64 t)).run Tryd.prog w = .ok (.int .u32 (v : Nat)) w := by
  have h8 : t = 0 ∨ t = 1 ∨ t = 2 ∨ t = 3 ∨ t = 4 ∨ t = 5 ∨ t = 6 ∨ t = 7 := by omega
  obtain ⟨o0, o1, o2, o3, o4, o5, o6, o7⟩ := ho
  rcases h8 with rfl | rfl | rfl | rfl | rfl | rfl | rfl | rfl <;> exact ⟨_, rfl, by assumption, fun w => by kernel_rfl⟩
theorem dig_row {l : List Nat} {t v : Nat} (hv : l[t]? = some v) (ht : t < 8) :
    Hid (byts ((l.take t).flatMap (fun v => bytesN v 4) ++ zerosN (32 - 4 * t)) = byts ((l.take t).flatMap fun v => bytesN v 4) ++ byts (zerosN 4) ++ byts (zerosN (28 - 4 * t)) ∧
      byts ((l.take t).flatMap fun v => bytesN v 4) ++ byts (bytesN v 4) ++ byts (zerosN (28 - 4 * t)) = byts ((l.take (t + 1)).flatMap (fun v => bytesN v 4) ++ zerosN (32 - 4 * (t + 1)))) := by
  obtain ⟨hk, rfl⟩ := List.getElem?_eq_some_iff.1 hv
  refine ⟨?_, ?_⟩
  · have e : 32 - 4 * t = 4 + (28 - 4 * t) := by omega
    rw [e, zerosN_add]
    simp [byts]
  · have e : 32 - 4 * (t + 1) = 28 - 4 * t := by omega
    rw [e, List.take_succ_eq_append_getElem hk, List.flatMap_append]
    simp [byts]
theorem slice_dig (g t : Nat) (ht : t < 8) (w : World) : (Instr.sliceAt 30 (.pointer (some ⟨g, 0, none⟩)) (some (.int .i64 (4 * (t : Int)))) (some (.int .i64 (4 * (t : Int) + 4))) none).run Tryd.prog w = .ok (.slice (some ⟨g, 4 * t, none⟩) 4 (32 - 4 * t)) w := by
  have h8 : t = 0 ∨ t = 1 ∨ t = 2 ∨ t = 3 ∨ t = 4 ∨ t = 5 ∨ t = 6 ∨ t = 7 := by omega
  rcases h8 with rfl | rfl | rfl | rfl | rfl | rfl | rfl | rfl <;> (show Sem.run _ _ _ = _; kernel_rfl)

theorem dig_under : Tryd.prog.underlying 30 = some (.array 32 5) := by kernel_rfl
theorem dig_info : (Tryd.prog.info? 30).map (·.size) = some 32 := by kernel_rfl
theorem byts_one (l : List Nat) : (byts l).toArray.all (·.oneCell') = true := by
  rw [Array.all_eq_true_iff_forall_mem]
  intro v hv
  rw [List.mem_toArray] at hv
  obtain ⟨x, _, rfl⟩ := List.mem_map.1 hv
  rfl

set_option maxRecDepth 100000 in
set_option maxHeartbeats 12000000 in
theorem sum_any (A : Option Addr) (n c : Nat) (l : List Nat) (W : World) (hA : Rd W W.heap.size 1 A n (byts l)) (ho : okB l) (hc : n ≤ c) (hc2 : c ≤ 9223372036854775807) (hG : ShaG W) :
    Calls Tryd.prog 78 #[.slice A n c] W (Ret (.agg (byts (shaN l)).toArray) W) := by
  have hl : Hid (l.length = n) := by have := hA.1; rw [byts_length, Nat.mul_one] at this; exact this
  have g0 := hG.2.1 0 shaS.a rfl
  have g1 := hG.2.1 1 shaS.b rfl
  have g2 := hG.2.1 2 shaS.c rfl
  have g3 := hG.2.1 3 shaS.d rfl
  have g4 := hG.2.1 4 shaS.e rfl
  have g5 := hG.2.1 5 shaS.f rfl
  have g6 := hG.2.1 6 shaS.g rfl
  have g7 := hG.2.1 7 shaS.h rfl
  have gw := hG.2.2.2
  go_enter Tryd.func78, Tryd.ntmps78
  go_wp2_with fail
  clear g0 g1 g2 g3 g4 g5 g6 g7
  change Code.wp _ _ _ _ ((W.alloc (.cells (byts (List.replicate 32 0)).toArray 30)).alloc (.cells (u32s shaS.list).toArray 164))
  have BD := (Blk.new W 30 (byts (List.replicate 32 0)).toArray _ rfl).alloc (.cells (u32s shaS.list).toArray 164)
  have BS := Blk.new (W.alloc (.cells (byts (List.replicate 32 0)).toArray 30)) 164 (u32s shaS.list).toArray (W.heap.size + 1) (by simp)
  have hb := bAl (bAl (bRefl W) (.cells (byts (List.replicate 32 0)).toArray 30)) (.cells (u32s shaS.list).toArray 164)
  generalize (W.alloc (.cells (byts (List.replicate 32 0)).toArray 30)).alloc (.cells (u32s shaS.list).toArray 164) = w1 at *
  go_loopw [5] (fun v wr => ∃ (k : Nat) (A' : Option Addr) (n' c' : Nat), v = .slice A' n' c' ∧ Below W.heap.size W wr ∧ Blk wr W.heap.size 30 (byts (List.replicate 32 0)).toArray ∧ Blk wr (W.heap.size + 1) 164 (u32s (blocksS shaS l k).list).toArray ∧ Rd wr W.heap.size 1 A' n' (byts (l.drop (64 * k))) ∧ n' ≤ c' ∧ c' ≤ c ∧ Hid (64 * k + n' = n)) (fun v _ => match v with | .slice _ m _ => m | _ => 0)
  case atStart => exact ⟨0, _, _, _, rfl, hb, BD, BS, hA.below hb, hc, Nat.le_refl _, by show 64 * 0 + n = n; omega⟩
  case round =>
    clear hb BD BS
    obtain ⟨k, A', n', c', rfl, hb, BD, BS, hR, hn', hcc, hkn⟩ := hrel
    by_cases hlt : 64 ≤ n'
    · have hA64 : Rd wr wr.heap.size 1 A' 64 (byts ((l.drop (64 * k)).take 64)) := by
        have h := (hR.more hb.size).pre 64 hlt
        rw [Nat.mul_one] at h
        have e : byts ((l.drop (64 * k)).take 64) = (byts (l.drop (64 * k))).take 64 := by simp [byts]
        rw [e]; exact h
      obtain ⟨b, off, rfl, hbb, _⟩ := hR.2 (by omega)
      have q := absorb_any (W.heap.size + 1) c' (some ⟨b, off, none⟩) (blocksS shaS l k) _ wr BS (blocksS_ok shaS_ok k) hA64 (okB_take (okB_drop ho _) 64) (by omega) (by omega) (hG.below hb)
      clear hA64
      go_wp2_with fail
      refine q.mono ?_
      rintro e w2 ⟨rfl, hg2, BS2⟩
      clear q
      have hb2 := hb.grown hg2 hb.size (fun q e => by cases e; omega)
      have BD2 : Blk w2 W.heap.size 30 (byts (List.replicate 32 0)).toArray := (hg2.block _ BD.lt (by simp)).trans BD
      have hR2 : Rd w2 W.heap.size 1 (some ⟨b, off, none⟩) n' (byts (l.drop (64 * k))) := hR.keep fun p hp => World.cell?_of_block (hg2.block _ (Nat.lt_of_lt_of_le hp hb.size) (by intro e; injection e with e; omega))
      have hdr : Hid (byts (l.drop (64 * (k + 1))) = (byts (l.drop (64 * k))).drop (64 * 1)) := by show _ = _; simp [byts, List.drop_drop, Nat.mul_add]
      clear hb BD BS hR hg2
      by_cases hcap : c' = 64
      · have hn64 : n' = 64 := by omega
        subst hcap
        subst hn64
        go_wp2_with fail
        go_roundw
        case rel => exact ⟨k + 1, _, 0, 0, rfl, hb2, BD2, BS2, ⟨by rw [byts_length, List.length_drop, hl.out]; have := hkn.out; omega, fun h => absurd h (by omega)⟩, by omega, by omega, by have := hkn.out; show _ = _; omega⟩
        case measure => show 0 < 64; omega
      · go_wp2_with fail
        go_roundw
        case rel => exact ⟨k + 1, some ⟨b, off + 64 * 1, none⟩, n' - 64, c' - 64, rfl, hb2, BD2, BS2, by rw [hdr.out]; exact hR2.cut 64 hlt, by omega, by omega, by have := hkn.out; show _ = _; omega⟩
        case measure => show n' - 64 < n'; omega
    · have hn64 : n' < 64 := by omega
      have hend : Hid (byts (l.drop (64 * k)) = byts (l.drop (64 * (l.length / 64))) ∧ k = l.length / 64 ∧ n' = l.length % 64) := by
        have h := hkn.out
        rw [← hl.out] at h
        have e : k = l.length / 64 := by omega
        exact ⟨by rw [← e], e, by omega⟩
      have hmk := make_end
      go_upto_region 8 with fail
      have BE := Blk.new wr 5 (byts (zerosN 128)).toArray _ rfl
      have hb2 := bAl hb (.cells (byts (zerosN 128)).toArray 5)
      have BD2 := BD.alloc (.cells (byts (zerosN 128)).toArray 5)
      have BS2 := BS.alloc (.cells (byts (zerosN 128)).toArray 5)
      have hwe : W.heap.size + 1 < wr.heap.size := BS.lt
      have hR2 := hR.alloc hb.size (.cells (byts (zerosN 128)).toArray 5)
      clear hb BD BS hR hmk
      generalize wr.alloc (.cells (byts (zerosN 128)).toArray 5) = w2 at *
      generalize wr.heap.size = we at *
      rw [hend.out.1] at hR2
      obtain ⟨rest, hrest⟩ : ∃ rest, Hid (rest = l.drop (64 * (l.length / 64))) := ⟨_, Lib.hid rfl⟩
      rw [← hrest.out] at hR2
      have hrl : Hid (rest.length = n') := by have := hR2.1; rw [byts_length, Nat.mul_one] at this; exact this
      apply wp_region_lit
      iterate 6 go_step
      refine wpList_copy_splice rfl (.tmp 22) (.tmp 23) 24 24 rfl 5 Tryd.underlying24 (by kernel_rfl) _ _ _ _ _ _ rfl rfl we 0 (byts (zerosN 128)) 5 BE (byts rest) ?c1 ?c2 ?c3 ?c4 we w2 (Below.refl _ _) (Nat.le_refl _) ?_
      case c1 => rw [byts_length, hrl.out]; exact (Nat.min_eq_left (by omega)).symm
      case c2 =>
        intro h0
        obtain ⟨b, off, rfl, hbb, hcc2⟩ := hR2.2 (by rw [byts_length, hrl.out] at h0; exact h0)
        refine ⟨rfl, _, rfl, fun j v hj => ?_⟩
        have ha : (⟨b, off, none⟩ : Addr).add j = ⟨b, off + j, none⟩ := by
          unfold Addr.add
          split
          · rename_i h; rw [h]; rfl
          · rfl
        rw [ha]
        exact hcc2 j v hj
      case c3 => rw [byts_length, byts_length, hrl.out, zerosN_len]; omega
      case c4 => intro v hv; obtain ⟨x, _, rfl⟩ := List.mem_map.1 hv; rfl
      intro w3 H3 hb3
      have BE3 : Blk w3 we 5 (byts (rest ++ zerosN (128 - n'))).toArray := by
        have h := H3.out
        rw [splice_zero, hrl.out] at h
        exact h
      have hweW : W.heap.size ≤ we := by omega
      have hb4 : Below W.heap.size W w3 := hb2.trans (hb3.mono hweW)
      have BD3 : Blk w3 W.heap.size 30 (byts (List.replicate 32 0)).toArray := BD2.below hb3 (by omega)
      have BS3 : Blk w3 (W.heap.size + 1) 164 (u32s (blocksS shaS l k).list).toArray := BS2.below hb3 (by omega)
      clear BE H3 hb2 hb3 BD2 BS2 hR2
      obtain ⟨v0, hv0⟩ : ∃ v, w3.cell? ⟨we, n', none⟩ = some v := by
        rw [BE3.cell]
        simp only [List.getElem?_toArray]
        exact ⟨_, List.getElem?_eq_getElem (by rw [byts_length, List.length_append, zerosN_len, hrl.out]; omega)⟩
      have hz0 := BE3.frozen n'
      have BE4 := BE3.set_ n' (.int .u8 128)
      rw [List.setIfInBounds_toArray, set_zero hrl.out (by omega)] at BE4
      have hb5 := bSet hb4 (p := ⟨we, n', none⟩) hweW (.int .u8 128)
      have BD4 := BD3.far (p := ⟨we, n', none⟩) (by show W.heap.size ≠ we; omega) (.int .u8 128)
      have BS4 := BS3.far (p := ⟨we, n', none⟩) (by show W.heap.size + 1 ≠ we; omega) (.int .u8 128)
      clear BE3 hb4 BD3 BS3
      have ZR := endN_form hrest.out hrl.out hend.out.2.2 hl.out
      have hu : IntKind.u64.wrap ((n : Int) * 8) = ((n * 8 % 18446744073709551616 : Nat) : Int) := by rw [IntKind.wrap_u64]; omega
      have HU := Lib.hid hu
      clear hu
      by_cases h55 : n' ≤ 55
      · have h55' : decide ((55 : Int) < (n' : Int)) = false := by simp; omega
        have hp : Hid (byts (rest ++ 128 :: zerosN (127 - n')) = byts (rest ++ 128 :: zerosN (55 - n')) ++ byts (zerosN 8) ++ byts (zerosN 64)) := row_form (by omega)
        have hZ : Hid (endN l = (rest ++ 128 :: zerosN (55 - n')) ++ bytesN (n * 8 % 18446744073709551616) 8) := by show _ = _; rw [ZR.out, if_pos h55]; simp
        have hL : Hid ((endN l).length = 64) := by show _ = _; rw [hZ.out]; simp [bytesN_len, zerosN_len, hrl.out]; omega
        have hS : Hid (shaN l = (blocksS (blocksS shaS l k) (endN l) 1).list.flatMap fun v => bytesN v 4) := by
          show _ = _
          rw [shaN_end, ← hend.out.2.1, ← hend.out.2.2, if_pos h55]
        rw [hp.out] at BE4
        clear ZR
        go_wp2_with fail
        rw [HU.out]
        clear hv0 hz0
        generalize w3.setCell ⟨we, n', none⟩ (.int .u8 128) = w4 at *
        have hlp : (byts (rest ++ 128 :: zerosN (55 - n'))).length = 56 := by simp [byts_length, zerosN_len, hrl.out]; omega
        refine (put_any we 56 8 72 _ 5 _ (byts (zerosN 8)) (byts (zerosN 64)) w4 BE4 hlp rfl (by omega)).mono ?_
        rintro e w5 ⟨rfl, hg5, BE5⟩
        have BE6 : Blk w5 we 5 (byts (endN l ++ zerosN 64)).toArray := by
          rw [hZ.out]
          simpa [byts] using BE5
        have hg5W : ∀ q, some we = some q → W.heap.size ≤ q := fun q e => by cases e; exact hweW
        have hb6 := hb5.grown hg5 hb5.size hg5W
        have BD6 : Blk w5 W.heap.size 30 (byts (List.replicate 32 0)).toArray := (hg5.block _ BD4.lt (by intro e; injection e with e; omega)).trans BD4
        have BS6 : Blk w5 (W.heap.size + 1) 164 (u32s (blocksS shaS l k).list).toArray := (hg5.block _ BS4.lt (by intro e; injection e with e; omega)).trans BS4
        clear BE4 BE5 hb5 BD4 BS4 hg5 hg5W HU
        obtain ⟨s0, hs0⟩ : ∃ s0, Hid (s0 = blocksS shaS l k) := ⟨_, Lib.hid rfl⟩
        have hs0k : s0.ok := by rw [hs0.out]; exact blocksS_ok shaS_ok k
        rw [← hs0.out] at BS6 hS
        have hoE : okB (endN l) := okB_app (okB_drop ho _) (okB_pad _)
        obtain ⟨E, hE⟩ : ∃ E, Hid (E = endN l) := ⟨_, Lib.hid rfl⟩
        rw [← hE.out] at BE6 hL hS hoE
        go_wp2_with fail
        go_loopw [6] (fun v wr => ∃ (j : Nat) (A' : Option Addr) (m c' : Nat), v = .slice A' m c' ∧ (0 < m → A' = some ⟨we, 64 * j, none⟩) ∧ Below W.heap.size W wr ∧ Blk wr W.heap.size 30 (byts (List.replicate 32 0)).toArray ∧ Blk wr (W.heap.size + 1) 164 (u32s (blocksS s0 E j).list).toArray ∧ Blk wr we 5 (byts (E ++ zerosN 64)).toArray ∧ m ≤ c' ∧ c' ≤ 128 ∧ Hid (64 * j + m = 64)) (fun v _ => match v with | .slice _ m _ => m | _ => 0)
        case atStart => exact ⟨0, _, _, _, rfl, fun _ => rfl, hb6, BD6, BS6, BE6, by omega, by omega, by show _ = _; omega⟩
        case round =>
          clear hb6 BD6 BS6 BE6
          obtain ⟨j, A2, m, c2, rfl, hA2, hb, BD, BS, BE, hmc, hc128, hjm⟩ := hrel
          by_cases hm : 0 < m
          · have hm64 : 64 ≤ m := by have := hjm.out; omega
            obtain rfl := hA2 hm
            have hR : Rd wr wr.heap.size 1 (some ⟨we, 64 * j, none⟩) 64 (byts ((E.drop (64 * j)).take 64)) := rd_of_blk BE (by have := hjm.out; rw [hL.out]; omega)
            have q := absorb_any (W.heap.size + 1) c2 (some ⟨we, 64 * j, none⟩) (blocksS s0 E j) _ wr BS (blocksS_ok hs0k j) hR (okB_take (okB_drop hoE _) 64) (by omega) (by omega) (hG.below hb)
            clear hR hA2
            go_wp2_with fail
            refine q.mono ?_
            rintro e w6 ⟨rfl, hg6, BS7⟩
            clear q
            have hb7 := hb.grown hg6 hb.size (fun q e => by cases e; omega)
            have BD7 : Blk w6 W.heap.size 30 (byts (List.replicate 32 0)).toArray := (hg6.block _ BD.lt (by simp)).trans BD
            have BE7 : Blk w6 we 5 (byts (E ++ zerosN 64)).toArray := (hg6.block _ BE.lt (by intro e; injection e with e; omega)).trans BE
            clear hb BD BS BE hg6
            by_cases hcap : c2 = 64
            · have hn64 : m = 64 := by omega
              subst hcap
              subst hn64
              go_wp2_with fail
              go_roundw
              case rel => exact ⟨j + 1, _, 0, 0, rfl, fun h => absurd h (by omega), hb7, BD7, BS7, BE7, by omega, by omega, by have := hjm.out; show _ = _; omega⟩
              case measure => show 0 < 64; omega
            · go_wp2_with fail
              go_roundw
              case rel => exact ⟨j + 1, some ⟨we, 64 * j + 64, none⟩, m - 64, c2 - 64, rfl, fun _ => by rw [Nat.mul_add], hb7, BD7, BS7, BE7, by omega, by omega, by have := hjm.out; show _ = _; omega⟩
              case measure => show m - 64 < m; omega
          · have hj : j = 1 := by have := hjm.out; omega
            rw [hj] at BS
            obtain ⟨st, hst⟩ : ∃ st, Hid (st = blocksS s0 E 1) := ⟨_, Lib.hid rfl⟩
            rw [← hst.out] at BS hS
            obtain ⟨q0, q1, q2, q3, q4, q5, q6, q7⟩ := st_cells BS
            have hso : st.ok := by rw [hst.out]; exact blocksS_ok hs0k _
            clear hj hjm hA2 BE
            go_wp2_with fail
            clear q0 q1 q2 q3 q4 q5 q6 q7 BS
            go_loopw [54] (fun i wr => ∃ t : Nat, t ≤ 8 ∧ i = .int .i64 t ∧ Below W.heap.size W wr ∧ Blk wr W.heap.size 30 (byts ((st.list.take t).flatMap (fun v => bytesN v 4) ++ zerosN (32 - 4 * t))).toArray) (fun i _ => 8 - (intOf i).toNat)
            case atStart => exact ⟨0, by omega, rfl, hb, BD⟩
            case round =>
              clear hb BD
              obtain ⟨t, ht8, rfl, hb, BD⟩ := hrel
              by_cases hlt : t < 8
              · obtain ⟨v, hv, hv32, hidx⟩ := idx_state st hso t hlt
                have hrow := dig_row (l := st.list) (v := v) hv (by show t < 8; exact hlt)
                have BD2 := BD
                rw [hrow.out.1] at BD2
                have it : (t : Int) < 8 := by omega
                have hpl : Hid ((byts ((st.list.take t).flatMap fun v => bytesN v 4)).length = 4 * t) := by show _ = _; rw [byts_length, flat4_len, List.length_take]; show 4 * min t 8 = 4 * t; omega
                have hsl := slice_dig W.heap.size t hlt
                have hH := Lib.hid hrow.out.2
                clear hrow
                go_wp2_with fail
                refine (put_any W.heap.size (4 * t) 4 (32 - 4 * t) v 30 _ (byts (zerosN 4)) (byts (zerosN (28 - 4 * t))) wr BD2 hpl.out rfl (by omega)).mono ?_
                rintro e w6 ⟨rfl, hg6, BD6⟩
                have BD7 : Blk w6 W.heap.size 30 (byts ((st.list.take (t + 1)).flatMap (fun v => bytesN v 4) ++ zerosN (32 - 4 * (t + 1)))).toArray := by
                  rw [← hH.out]; exact BD6
                have hb7 := hb.grown hg6 hb.size (fun q e => by cases e; omega)
                clear hb BD BD2 BD6 hg6
                go_wp2_with fail
                go_roundw
                case rel => exact ⟨t + 1, by omega, by go_num, hb7, BD7⟩
                case measure => simp [intOf]; omega
              · have ht : t = 8 := by omega
                have BD8 : Blk wr W.heap.size 30 (byts (shaN l)).toArray := by
                  rw [ht] at BD
                  rw [hS.out]
                  simpa [zerosN, S8.list] using BD
                clear ht BD
                go_upto_region 21 with fail
                apply wp_region_lit
                refine wpList_load_row rfl 30 (.tmp 2) rfl W.heap.size rfl 30 (byts (shaN l)).toArray (0, 0) _ BD8 dig_under rfl (by rw [List.size_toArray, byts_length, shaN_len]; exact dig_info) ?_
                refine wpList_store_row rfl 30 (.tmp 2) (.tmp 68) rfl W.heap.size (byts (shaN l)).toArray rfl rfl 30 _ BD8 (by rw [List.size_toArray, byts_length, shaN_len]; exact dig_info) rfl (byts_one _) ?_
                have hb9 := below_setRow hb (Nat.le_refl _) (byts (shaN l)).toArray
                have BD9 : Blk (wr.setRow W.heap.size (byts (shaN l)).toArray) W.heap.size 30 (byts (shaN l)).toArray := setRow_heap wr W.heap.size _ _ 30 _ BD8
                go_wp2_with fail
                exact bodyPost_ret (v := .agg (byts (shaN l)).toArray) (results_cell_row rfl _ _ W.heap.size 30 _ (0, 0) _ rfl BD9 dig_under rfl (by rw [List.size_toArray, byts_length, shaN_len]; exact dig_info)) rfl ⟨rfl, hb9⟩
      · have h55' : decide ((55 : Int) < (n' : Int)) = true := by simp; omega
        have hp : Hid (byts (rest ++ 128 :: zerosN (127 - n')) = byts (rest ++ 128 :: zerosN (119 - n')) ++ byts (zerosN 8) ++ byts (zerosN 0)) := row_form (by omega)
        have hZ : Hid (endN l = (rest ++ 128 :: zerosN (119 - n')) ++ bytesN (n * 8 % 18446744073709551616) 8) := by show _ = _; rw [ZR.out, if_neg h55]; simp
        have hL : Hid ((endN l).length = 128) := by show _ = _; rw [hZ.out]; simp [bytesN_len, zerosN_len, hrl.out]; omega
        have hS : Hid (shaN l = (blocksS (blocksS shaS l k) (endN l) 2).list.flatMap fun v => bytesN v 4) := by
          show _ = _
          rw [shaN_end, ← hend.out.2.1, ← hend.out.2.2, if_neg h55]
        rw [hp.out] at BE4
        clear ZR
        go_wp2_with fail
        rw [HU.out]
        clear hv0 hz0
        generalize w3.setCell ⟨we, n', none⟩ (.int .u8 128) = w4 at *
        have hlp : (byts (rest ++ 128 :: zerosN (119 - n'))).length = 120 := by simp [byts_length, zerosN_len, hrl.out]; omega
        refine (put_any we 120 8 8 _ 5 _ (byts (zerosN 8)) (byts (zerosN 0)) w4 BE4 hlp rfl (by omega)).mono ?_
        rintro e w5 ⟨rfl, hg5, BE5⟩
        have BE6 : Blk w5 we 5 (byts (endN l ++ zerosN 0)).toArray := by
          rw [hZ.out]
          simpa [byts] using BE5
        have hg5W : ∀ q, some we = some q → W.heap.size ≤ q := fun q e => by cases e; exact hweW
        have hb6 := hb5.grown hg5 hb5.size hg5W
        have BD6 : Blk w5 W.heap.size 30 (byts (List.replicate 32 0)).toArray := (hg5.block _ BD4.lt (by intro e; injection e with e; omega)).trans BD4
        have BS6 : Blk w5 (W.heap.size + 1) 164 (u32s (blocksS shaS l k).list).toArray := (hg5.block _ BS4.lt (by intro e; injection e with e; omega)).trans BS4
        clear BE4 BE5 hb5 BD4 BS4 hg5 hg5W HU
        obtain ⟨s0, hs0⟩ : ∃ s0, Hid (s0 = blocksS shaS l k) := ⟨_, Lib.hid rfl⟩
        have hs0k : s0.ok := by rw [hs0.out]; exact blocksS_ok shaS_ok k
        rw [← hs0.out] at BS6 hS
        have hoE : okB (endN l) := okB_app (okB_drop ho _) (okB_pad _)
        obtain ⟨E, hE⟩ : ∃ E, Hid (E = endN l) := ⟨_, Lib.hid rfl⟩
        rw [← hE.out] at BE6 hL hS hoE
        go_wp2_with fail
        go_loopw [6] (fun v wr => ∃ (j : Nat) (A' : Option Addr) (m c' : Nat), v = .slice A' m c' ∧ (0 < m → A' = some ⟨we, 64 * j, none⟩) ∧ Below W.heap.size W wr ∧ Blk wr W.heap.size 30 (byts (List.replicate 32 0)).toArray ∧ Blk wr (W.heap.size + 1) 164 (u32s (blocksS s0 E j).list).toArray ∧ Blk wr we 5 (byts (E ++ zerosN 0)).toArray ∧ m ≤ c' ∧ c' ≤ 128 ∧ Hid (64 * j + m = 128)) (fun v _ => match v with | .slice _ m _ => m | _ => 0)
        case atStart => exact ⟨0, _, _, _, rfl, fun _ => rfl, hb6, BD6, BS6, BE6, by omega, by omega, by show _ = _; omega⟩
        case round =>
          clear hb6 BD6 BS6 BE6
          obtain ⟨j, A2, m, c2, rfl, hA2, hb, BD, BS, BE, hmc, hc128, hjm⟩ := hrel
          by_cases hm : 0 < m
          · have hm64 : 64 ≤ m := by have := hjm.out; omega
            obtain rfl := hA2 hm
            have hR : Rd wr wr.heap.size 1 (some ⟨we, 64 * j, none⟩) 64 (byts ((E.drop (64 * j)).take 64)) := rd_of_blk BE (by have := hjm.out; rw [hL.out]; omega)
            have q := absorb_any (W.heap.size + 1) c2 (some ⟨we, 64 * j, none⟩) (blocksS s0 E j) _ wr BS (blocksS_ok hs0k j) hR (okB_take (okB_drop hoE _) 64) (by omega) (by omega) (hG.below hb)
            clear hR hA2
            go_wp2_with fail
            refine q.mono ?_
            rintro e w6 ⟨rfl, hg6, BS7⟩
            clear q
            have hb7 := hb.grown hg6 hb.size (fun q e => by cases e; omega)
            have BD7 : Blk w6 W.heap.size 30 (byts (List.replicate 32 0)).toArray := (hg6.block _ BD.lt (by simp)).trans BD
            have BE7 : Blk w6 we 5 (byts (E ++ zerosN 0)).toArray := (hg6.block _ BE.lt (by intro e; injection e with e; omega)).trans BE
            clear hb BD BS BE hg6
            by_cases hcap : c2 = 64
            · have hn64 : m = 64 := by omega
              subst hcap
              subst hn64
              go_wp2_with fail
              go_roundw
              case rel => exact ⟨j + 1, _, 0, 0, rfl, fun h => absurd h (by omega), hb7, BD7, BS7, BE7, by omega, by omega, by have := hjm.out; show _ = _; omega⟩
              case measure => show 0 < 64; omega
            · go_wp2_with fail
              go_roundw
              case rel => exact ⟨j + 1, some ⟨we, 64 * j + 64, none⟩, m - 64, c2 - 64, rfl, fun _ => by rw [Nat.mul_add], hb7, BD7, BS7, BE7, by omega, by omega, by have := hjm.out; show _ = _; omega⟩
              case measure => show m - 64 < m; omega
          · have hj : j = 2 := by have := hjm.out; omega
            rw [hj] at BS
            obtain ⟨st, hst⟩ : ∃ st, Hid (st = blocksS s0 E 2) := ⟨_, Lib.hid rfl⟩
            rw [← hst.out] at BS hS
            obtain ⟨q0, q1, q2, q3, q4, q5, q6, q7⟩ := st_cells BS
            have hso : st.ok := by rw [hst.out]; exact blocksS_ok hs0k _
            clear hj hjm hA2 BE
            go_wp2_with fail
            clear q0 q1 q2 q3 q4 q5 q6 q7 BS
            go_loopw [54] (fun i wr => ∃ t : Nat, t ≤ 8 ∧ i = .int .i64 t ∧ Below W.heap.size W wr ∧ Blk wr W.heap.size 30 (byts ((st.list.take t).flatMap (fun v => bytesN v 4) ++ zerosN (32 - 4 * t))).toArray) (fun i _ => 8 - (intOf i).toNat)
            case atStart => exact ⟨0, by omega, rfl, hb, BD⟩
            case round =>
              clear hb BD
              obtain ⟨t, ht8, rfl, hb, BD⟩ := hrel
              by_cases hlt : t < 8
              · obtain ⟨v, hv, hv32, hidx⟩ := idx_state st hso t hlt
                have hrow := dig_row (l := st.list) (v := v) hv (by show t < 8; exact hlt)
                have BD2 := BD
                rw [hrow.out.1] at BD2
                have it : (t : Int) < 8 := by omega
                have hpl : Hid ((byts ((st.list.take t).flatMap fun v => bytesN v 4)).length = 4 * t) := by show _ = _; rw [byts_length, flat4_len, List.length_take]; show 4 * min t 8 = 4 * t; omega
                have hsl := slice_dig W.heap.size t hlt
                have hH := Lib.hid hrow.out.2
                clear hrow
                go_wp2_with fail
                refine (put_any W.heap.size (4 * t) 4 (32 - 4 * t) v 30 _ (byts (zerosN 4)) (byts (zerosN (28 - 4 * t))) wr BD2 hpl.out rfl (by omega)).mono ?_
                rintro e w6 ⟨rfl, hg6, BD6⟩
                have BD7 : Blk w6 W.heap.size 30 (byts ((st.list.take (t + 1)).flatMap (fun v => bytesN v 4) ++ zerosN (32 - 4 * (t + 1)))).toArray := by
                  rw [← hH.out]; exact BD6
                have hb7 := hb.grown hg6 hb.size (fun q e => by cases e; omega)
                clear hb BD BD2 BD6 hg6
                go_wp2_with fail
                go_roundw
                case rel => exact ⟨t + 1, by omega, by go_num, hb7, BD7⟩
                case measure => simp [intOf]; omega
              · have ht : t = 8 := by omega
                have BD8 : Blk wr W.heap.size 30 (byts (shaN l)).toArray := by
                  rw [ht] at BD
                  rw [hS.out]
                  simpa [zerosN, S8.list] using BD
                clear ht BD
                go_upto_region 21 with fail
                apply wp_region_lit
                refine wpList_load_row rfl 30 (.tmp 2) rfl W.heap.size rfl 30 (byts (shaN l)).toArray (0, 0) _ BD8 dig_under rfl (by rw [List.size_toArray, byts_length, shaN_len]; exact dig_info) ?_
                refine wpList_store_row rfl 30 (.tmp 2) (.tmp 68) rfl W.heap.size (byts (shaN l)).toArray rfl rfl 30 _ BD8 (by rw [List.size_toArray, byts_length, shaN_len]; exact dig_info) rfl (byts_one _) ?_
                have hb9 := below_setRow hb (Nat.le_refl _) (byts (shaN l)).toArray
                have BD9 : Blk (wr.setRow W.heap.size (byts (shaN l)).toArray) W.heap.size 30 (byts (shaN l)).toArray := setRow_heap wr W.heap.size _ _ 30 _ BD8
                go_wp2_with fail
                exact bodyPost_ret (v := .agg (byts (shaN l)).toArray) (results_cell_row rfl _ _ W.heap.size 30 _ (0, 0) _ rfl BD9 dig_under rfl (by rw [List.size_toArray, byts_length, shaN_len]; exact dig_info)) rfl ⟨rfl, hb9⟩

end Go.Proofs.YtoeobcmmafncmaaDoor

/-
  append of a slice that reads as a list, nil let in; slices of bytes as results.
-/
namespace Go.Proofs.YtoeobcmmafncmaaDoor
open Go.RowKit

theorem addr_plus (b off j : Nat) : (⟨b, off, none⟩ : Addr).add j = ⟨b, off + j, none⟩ := by
  unfold Addr.add
  split
  · rename_i h; rw [h]; rfl
  · rfl
theorem wpList_appendS {P : Program} {ops : Array Oper} {rest : List Oper} {o : Oper} {a : Act} {Q : Exit → Act → World → Prop} {w : World} (s x : Operand) (t : TypeId)
    (base : Nat) (e : TypeId) (z : Value) (size bytes : Nat) (v : Value) (n : Nat) (xs : List Value) (A : Option Addr) (m c B : Nat) (news : List Value) (hgd : o.guard = none)
    (ho : o.op = .call { callee := .builtin .append, args := #[s, x], argTypes := #[t, t] })
    (ht : P.underlying t = some (.slice e)) (hinfo : (P.info? e).map (fun i => (i.zero, i.size, i.bytes)) = some (some z, size, bytes)) (hzs : z.cells.size = size) (hsz : 0 < size)
    (hs : a.eval s = v) (hown : w.ownsRow base e size v n xs) (hx : a.eval x = .slice A m c) (hr : Rd w B size A m news) (hnil : A = none → m = 0 ∧ c = 0) (h1 : ∀ u ∈ news, u.oneCell' = true)
    (h63 : n + m ≤ maxLen) (hbytes : (n + m) * bytes ≤ 140737488355328) (hbase : base ≤ w.heap.size)
    (h : ∀ v' w', w'.ownsRow base e size v' (n + m) (xs ++ news) → Below base w w' → w.grownBy w' v.ownBlock → wpList P ops Q rest (a.put o.dst v') w') :
    wpList P ops Q (o :: rest) a w := by
  obtain ⟨i0, hi, hz0, hz1, hz2⟩ := info_parts hinfo
  cases A with
  | none =>
    obtain ⟨rfl, rfl⟩ := hnil rfl
    have hn0 : news = [] := List.eq_nil_of_length_eq_zero (by rw [hr.1]; simp)
    subst hn0
    refine wpList_append_own_none hgd s x t ho base e i0 size ht hi v n xs hs hown hx ?_
    exact h v w (by simpa using hown) (Below.refl _ _) (World.grownBy.refl _ _)
  | some ad =>
    refine wpList_append_own w hgd s x t ho base e i0 z size bytes ht hi hz0 hz1 hz2 hzs hsz v n xs hs hown ad m c news hx hr.1 ?_ h1 h63 hbytes hbase ?_
    · intro j u hj
      rcases Nat.eq_zero_or_pos m with h0 | h0
      · subst h0
        have hn0 : news = [] := List.eq_nil_of_length_eq_zero (by rw [hr.1]; simp)
        subst hn0
        simp at hj
      · obtain ⟨b, off, he, _, hc⟩ := hr.2 h0
        injection he with he
        subst he
        rw [addr_plus]
        exact hc j u hj
    · intro v' w' hown' hgrow _
      refine h v' w' hown' ?_ hgrow
      exact (Below.refl _ _).grown hgrow hbase (fun k hk => (hown.lt k hk).1)

/-- A slice value that holds some cells, nil let in. -/
def Sl (w : World) (B sz : Nat) (v : Value) (n : Nat) (xs : List Value) : Prop :=
  ∃ A c, v = .slice A n c ∧ Rd w B sz A n xs ∧ n ≤ c ∧ c ≤ 9223372036854775807 ∧ (A = none → n = 0 ∧ c = 0)
section
variable {w w' : World} {B B' sz n : Nat} {v : Value} {xs : List Value}
theorem Sl.below (h : Sl w B sz v n xs) (hb : Below B w w') : Sl w' B sz v n xs := by
  obtain ⟨A, c, e, hr, h1, h2, h3⟩ := h
  exact ⟨A, c, e, hr.below hb, h1, h2, h3⟩
theorem Sl.more (h : Sl w B sz v n xs) (hB : B ≤ B') : Sl w B' sz v n xs := by
  obtain ⟨A, c, e, hr, h1, h2, h3⟩ := h
  exact ⟨A, c, e, hr.more hB, h1, h2, h3⟩
theorem Sl.of_own {base : Nat} {e : TypeId} (h : w.ownsRow base e sz v n xs) : Sl w w.heap.size sz v n xs := by
  rcases h.2 with ⟨rfl, rfl⟩ | ⟨g, cap, cur, rfl, _, hg, hnc, hm, hsz, htk⟩
  · exact ⟨none, 0, rfl, ⟨h.1, fun hn => absurd hn (by omega)⟩, Nat.le_refl _, by omega, fun _ => ⟨rfl, rfl⟩⟩
  · refine ⟨_, _, rfl, ⟨h.1, fun _ => ⟨g, 0, rfl, Blk.lt hg, fun j u hu => ?_⟩⟩, hnc, hm, fun h => by cases h⟩
    rw [Nat.zero_add, Blk.cell hg]
    rw [← htk, List.getElem?_take] at hu
    split at hu
    · simpa using hu
    · cases hu
theorem Sl.nil_ : Sl w B sz (.slice none 0 0) 0 [] := ⟨none, 0, rfl, Rd.nil_, Nat.le_refl _, by omega, fun _ => ⟨rfl, rfl⟩⟩
theorem Sl.of_blk {g off k c : Nat} {t : TypeId} {cs : List Value} {xs : List Value} (h : Blk w g t cs.toArray) (hx : ∀ j u, xs[j]? = some u → cs[off + j]? = some u) (hl : xs.length = k * sz) (hk : k ≤ c) (hc : c ≤ 9223372036854775807) :
    Sl w w.heap.size sz (.slice (some ⟨g, off, none⟩) k c) k xs :=
  ⟨_, _, rfl, ⟨hl, fun _ => ⟨g, off, rfl, h.lt, fun j u hu => by rw [h.cell]; simpa using hx j u hu⟩⟩, hk, hc, fun h => by cases h⟩
end
/-- A call that makes a slice. -/
def RetSl (sz n : Nat) (xs : List Value) (w : World) (r : Ending) (w' : World) : Prop := ∃ v, r = .returned v ∧ Below w.heap.size w w' ∧ Sl w' w'.heap.size sz v n xs

end Go.Proofs.YtoeobcmmafncmaaDoor
