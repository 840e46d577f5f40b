/-
  The reference's values: numbers, digests, lists; an opening as a value; walked.
-/
import Derived.Test.YthgppaiiapkdjaaGreatDoorMbf
import Derived.Test.YthgppaiiapkdjaaGreatDoorMby
import Derived.Test.YthgppaiiapkdjaaGreatDoorMba
import Derived.Test.YthgppaiiapkdjaaGreatDoorMbg
import Derived.Test.YthgppaiiapkdjaaGreatDoorMbd
import Derived.Test.YthgppaiiapkdjaaGreatDoorMar
import Derived.Test.YthgppaiiapkdjaaGreatDoorMac
namespace Go.Proofs.YthgppaiiapkdjaaGreatDoor
open Go.RowKit

abbrev intV (n : Int) : Value := .agg #[.int .i64 1, .int .i64 n, .string ⟨#[]⟩, .slice none 0 0]
abbrev textV (s : ByteArray) : Value := .agg #[.int .i64 2, .int .i64 0, .string s, .slice none 0 0]
theorem ref_vint (n : Int) (W : World) : Calls Tryz.prog 121 #[.int .i64 n] W (Ret (intV n) W) := by
  have hb := bAl (bRefl W) (.cells #[.int .i64 1, .int .i64 n, .string ⟨#[]⟩, .slice none 0 0] 140)
  go_enter Tryz.func121, Tryz.ntmps121
  go_wp2_with fail
  exact bodyPost_ret (v := intV n) (by simp [results, Tryz.results121, go_sem, intV]) rfl ⟨rfl, hb⟩
theorem ref_vnum (n : Int) (W : World) : Calls Tryz.prog 107 #[.int .i64 n] W (Ret (intV n) W) := by
  have hb := bAl (bRefl W) (.cells #[.int .i64 1, .int .i64 n, .string ⟨#[]⟩, .slice none 0 0] 140)
  go_enter Tryz.func107, Tryz.ntmps107
  go_wp2_with fail
  exact bodyPost_ret (v := intV n) (by simp [results, Tryz.results107, go_sem, intV]) rfl ⟨rfl, hb⟩
theorem ref_vlist (A : Option Addr) (n c : Nat) (W : World) : Calls Tryz.prog 106 #[.slice A n c] W (Ret (listV A n c) W) := by
  have hb := bAl (bRefl W) (.cells #[.int .i64 3, .int .i64 0, .string ⟨#[]⟩, .slice A n c] 140)
  go_enter Tryz.func106, Tryz.ntmps106
  go_wp2_with fail
  exact bodyPost_ret (v := listV A n c) (by simp [results, Tryz.results106, go_sem, listV]) rfl ⟨rfl, hb⟩

/-- What a call makes: a list of values. -/
def RetV (l : List It) (W : World) (r : Ending) (w' : World) : Prop := ∃ A c, r = .returned (listV A l.length c) ∧ Below W.heap.size W w' ∧ Rd w' w'.heap.size 4 A l.length (l.flatMap It.cells)

set_option maxRecDepth 100000 in
set_option maxHeartbeats 4000000 in
theorem ref_ints (A : Option Addr) (n c : Nat) (l : List Int) (W : World) (hA : Rd W W.heap.size 1 A n (ints l)) (hn : n ≤ 100) :
    Calls Tryz.prog 105 #[.slice A n c] W (RetV (l.map It.int) W) := by
  obtain rfl : l.length = n := by have := hA.1; rw [ints_length, Nat.mul_one] at this; exact this
  go_enter Tryz.func105, Tryz.ntmps105
  go_upto_region 2 with fail
  have BR := (Blk.new W 140 #[.int .i64 0, .int .i64 0, .string ⟨#[]⟩, .slice none 0 0] _ rfl).alloc (.cells #[.int .i64 3, .int .i64 0, .string ⟨#[]⟩, .slice none 0 0] 140)
  have BV := Blk.new (W.alloc (.cells #[.int .i64 0, .int .i64 0, .string ⟨#[]⟩, .slice none 0 0] 140)) 140 #[.int .i64 3, .int .i64 0, .string ⟨#[]⟩, .slice none 0 0] (W.heap.size + 1) (by simp)
  have hb := bAl (bAl (bRefl W) (.cells #[.int .i64 0, .int .i64 0, .string ⟨#[]⟩, .slice none 0 0] 140)) (.cells #[.int .i64 3, .int .i64 0, .string ⟨#[]⟩, .slice none 0 0] 140)
  generalize (W.alloc (.cells #[.int .i64 0, .int .i64 0, .string ⟨#[]⟩, .slice none 0 0] 140)).alloc (.cells #[.int .i64 3, .int .i64 0, .string ⟨#[]⟩, .slice none 0 0] 140) = w1 at *
  go_wp2_with fail
  go_loopw [4] (fun i wr => ∃ (k : Nat) (v : Value), k ≤ l.length ∧ i = .int .i64 k ∧ Below W.heap.size W wr ∧ Blk wr W.heap.size 140 #[.int .i64 0, .int .i64 0, .string ⟨#[]⟩, .slice none 0 0] ∧ Blk wr (W.heap.size + 1) 140 #[.int .i64 3, .int .i64 0, .string ⟨#[]⟩, v] ∧ wr.ownsRow (W.heap.size + 2) 140 4 v k (((l.take k).map It.int).flatMap It.cells)) (fun i _ => l.length - (intOf i).toNat)
  case atStart => exact ⟨0, _, Nat.zero_le _, rfl, hb, BR, BV, World.ownsRow_nil _ _ _ _⟩
  case round =>
    clear hb BV BR
    obtain ⟨k, v, hk, rfl, hb, BR, BV, hown⟩ := hrel
    by_cases hlt : k < l.length
    · obtain ⟨x, hx⟩ : ∃ x, Hid (l[k]? = some x) := ⟨_, Lib.hid (List.getElem?_eq_getElem hlt)⟩
      obtain ⟨b, off, rfl, hbb, d0⟩ := Int_at (hA.below hb) hlt hx.out
      have hsn : Hid (((l.take (k + 1)).map It.int).flatMap It.cells = ((l.take k).map It.int).flatMap It.cells ++ (It.int x).cells) := by
        obtain ⟨hk, rfl⟩ := List.getElem?_eq_some_iff.1 hx.out
        show _ = _
        rw [List.take_succ_eq_append_getElem hk, List.map_append, List.flatMap_append]; simp
      have hbs : W.heap.size + 1 < wr.heap.size := BV.lt
      have hone := it_one (.int x)
      have h63 : k + 1 ≤ maxLen := by unfold maxLen; omega
      have hby : (k + 1) * 56 ≤ 140737488355328 := by omega
      have i0 : (0 : Int) ≤ (k : Int) := by omega
      have i1 : (k : Int) < (l.length : Int) := by omega
      have KS : Hid (∀ w', Below wr.heap.size wr w' → w'.cell? ⟨W.heap.size + 1, 3, none⟩ = some v ∧ w'.cell? ⟨b, off + k, none⟩ = some (.int .i64 x)) := Lib.hid (fun w' h => ⟨(BV.below h BV.lt).cell 3, (h.cell (p := ⟨b, off + k, none⟩) (Nat.lt_of_lt_of_le hbb hb.size)).trans d0⟩)
      clear d0
      go_upto_region 5 with fail
      refine wp_region_sched (fun w' => w'.cell? ⟨W.heap.size + 1, 3, none⟩ = some v ∧ w'.cell? ⟨b, off + k, none⟩ = some (.int .i64 x)) 8 [(0, 1), (1, 2), (2, 1), (3, 1), (4, 1), (5, 2), (6, 0), (7, 0), (8, 3), (9, 3), (10, 3)] (by kernel_rfl) (by kernel_rfl) (by exact KS.out _ (by repeat (first | with_reducible exact B7 | with_reducible exact bRefl _ | with_reducible refine bDr ?_ | with_reducible refine bAl ?_ _))) ?_
      simp only [pickS, List.getElem?_cons_zero, List.getElem?_cons_succ]
      refine wpSched_take (v := ?_) (by rfl) ?_ ?_
      rotate_left 1
      focus (intro w hSw; clear hSw; go_simp; try with_reducible rfl)
      try simp only [Act.put, List.setIfInBounds_toArray, List.set_cons_zero, List.set_cons_succ]
      refine wpSched_read (v := ?_) (by rfl) ?_ ?_
      rotate_left 1
      focus (intro w hSw; go_simp; try with_reducible rfl)
      try simp only [Act.put, List.setIfInBounds_toArray, List.set_cons_zero, List.set_cons_succ]
      iterate 3 (refine wpSched_take (v := ?_) (by rfl) ?_ ?_; rotate_left 1; focus (intro w hSw; clear hSw; go_simp; try with_reducible rfl); try simp only [Act.put, List.setIfInBounds_toArray, List.set_cons_zero, List.set_cons_succ])
      refine wpSched_read (v := ?_) (by rfl) ?_ ?_
      rotate_left 1
      focus (intro w hSw; go_simp; try with_reducible rfl)
      try simp only [Act.put, List.setIfInBounds_toArray, List.set_cons_zero, List.set_cons_succ]
      refine wpSched_force (fun K hK => ?_)
      go_simp
      first | (go_at_call 121; (with_reducible refine (ref_vint x wr.drew).mono ?_); unfold intV; rintro e w9 ⟨rfl, b9⟩; have B7 : Below wr.heap.size wr w9 := bCall (bDr (bRefl _)) b9) | skip
      refine hK.out _ _ (by exact KS.out _ (by repeat (first | with_reducible exact B7 | with_reducible exact bRefl _ | with_reducible refine bDr ?_ | with_reducible refine bAl ?_ _))) (fun hHeld => ?_)
      clear hHeld hK K
      try simp only [Act.put, List.setIfInBounds_toArray, List.set_cons_zero, List.set_cons_succ]
      refine wpSched_force (fun K hK => ?_)
      go_simp
      first | (go_at_call 121; (with_reducible refine (ref_vint x wr.drew).mono ?_); unfold intV; rintro e w9 ⟨rfl, b9⟩; have B7 : Below wr.heap.size wr w9 := bCall (bDr (bRefl _)) b9) | skip
      refine hK.out _ _ (by exact KS.out _ (by repeat (first | with_reducible exact B7 | with_reducible exact bRefl _ | with_reducible refine bDr ?_ | with_reducible refine bAl ?_ _))) (fun hHeld => ?_)
      clear hHeld hK K
      try simp only [Act.put, List.setIfInBounds_toArray, List.set_cons_zero, List.set_cons_succ]
      refine wpSched_last ?_
      first | simp only [List.map_nil] | simp only [List.map_cons, List.map_nil]
      have hown9 : w9.ownsRow (W.heap.size + 2) 140 4 v k _ := ownsRow_keep hown B7
      have BV9 := BV.below B7 BV.lt
      have BR9 := BR.below B7 BR.lt
      have hb9 := bCall hb B7
      have hs9 : W.heap.size + 2 ≤ w9.heap.size := Nat.le_trans hbs B7.size
      refine wpList_append1G w9 [.int .i64 1, .int .i64 x, .string ⟨#[]⟩, .slice none 0 0] (.tmp 13) (.tmp 19) 138 (W.heap.size + 2) 140 (.agg #[.int .i64 0, .int .i64 0, .string ⟨#[]⟩, .slice none 0 0]) 4 56 v k (((l.take k).map It.int).flatMap It.cells) (by rfl) (by rfl) Tryz.underlying138 value_info rfl (by omega) (by rfl) hown9 (by rfl) rfl hone h63 hby hs9 ?_
      intro v' w' hown4 hg4
      obtain ⟨g', cap', rfl⟩ := ownsRow_succ hown4
      have b4 := hg4.below hown9 hs9
      have BV4 := BV9.below b4 (by omega)
      have BR4 := BR9.below b4 (by omega)
      have c4 := val_cell BV4
      have z4 := BV4.frozen 3
      have hb4 := hb9.trans (b4.mono (by omega))
      clear KS B7 hown9 BV9 BR9 hb9 hs9 b4 hown hb BR BV hg4
      go_wp2_with fail
      refine NoPanic.normal ?_
      go_wp2_with fail
      exact ⟨⟨k + 1, _, by omega, by go_num, bSet hb4 (by show W.heap.size ≤ W.heap.size + 1; omega) _, BR4.far (by show W.heap.size ≠ W.heap.size + 1; omega) _, BV4.set_ 3 _, by rw [hsn.out]; exact ownsRow_set hown4 (p := ⟨W.heap.size + 1, 3, none⟩) (by show W.heap.size + 1 < W.heap.size + 2; omega) _⟩, by simp [intOf]; omega⟩
    · have hkn : k = l.length := by omega
      rw [hkn, List.take_length] at hown
      clear hkn
      obtain ⟨A2, c2, hv, hR, _⟩ := Sl.of_own hown
      subst hv
      obtain ⟨e0, e1, e2, e3⟩ := box_cells BV
      have z0 := BR.frozen 0
      have z1 := BR.frozen 1
      have z2 := BR.frozen 2
      have z3 := BR.frozen 3
      obtain ⟨y0, y1, y2, y3⟩ := box_cells BR
      have hlm : Hid ((l.map It.int).length = l.length) := by show _ = _; simp
      have hown2 := ownsRow_set (ownsRow_set (ownsRow_set (ownsRow_set hown (p := ⟨W.heap.size, 0, none⟩) (by show W.heap.size < W.heap.size + 2; omega) (.int .i64 3)) (p := ⟨W.heap.size, 1, none⟩) (by show W.heap.size < W.heap.size + 2; omega) (.int .i64 0)) (p := ⟨W.heap.size, 2, none⟩) (by show W.heap.size < W.heap.size + 2; omega) (.string ⟨#[]⟩)) (p := ⟨W.heap.size, 3, none⟩) (by show W.heap.size < W.heap.size + 2; omega) (.slice A2 l.length c2)
      have hb2 := bSet (bSet (bSet (bSet hb (p := ⟨W.heap.size, 0, none⟩) (Nat.le_refl _) (.int .i64 3)) (p := ⟨W.heap.size, 1, none⟩) (Nat.le_refl _) (.int .i64 0)) (p := ⟨W.heap.size, 2, none⟩) (Nat.le_refl _) (.string ⟨#[]⟩)) (p := ⟨W.heap.size, 3, none⟩) (Nat.le_refl _) (.slice A2 l.length c2)
      have BR2 := (((BR.set_ 0 (.int .i64 3)).set_ 1 (.int .i64 0)).set_ 2 (.string ⟨#[]⟩)).set_ 3 (.slice A2 l.length c2)
      obtain ⟨A3, c3, hv3, hR3, _⟩ := Sl.of_own hown2
      injection hv3 with hA3 _ hc3
      subst hA3; subst hc3
      go_wp2_with fail
      generalize (((wr.setCell ⟨W.heap.size, 0, none⟩ (.int .i64 3)).setCell ⟨W.heap.size, 1, none⟩ (.int .i64 0)).setCell ⟨W.heap.size, 2, none⟩ (.string ⟨#[]⟩)).setCell ⟨W.heap.size, 3, none⟩ (.slice A2 l.length c2) = w8 at *
      have r0 : w8.cell? ⟨W.heap.size, 0, none⟩ = some (.int .i64 3) := by simpa using BR2.cell 0
      have r1 : w8.cell? ⟨W.heap.size, 1, none⟩ = some (.int .i64 0) := by simpa using BR2.cell 1
      have r2 : w8.cell? ⟨W.heap.size, 2, none⟩ = some (.string ⟨#[]⟩) := by simpa using BR2.cell 2
      have r3 : w8.cell? ⟨W.heap.size, 3, none⟩ = some (.slice A2 l.length c2) := by simpa using BR2.cell 3
      exact bodyPost_ret (v := listV A2 l.length c2) (by simp [results, Tryz.results105, go_sem, listV, r0, r1, r2, r3]) rfl ⟨A2, c2, by rw [hlm.out], hb2, by rw [hlm.out]; exact hR3⟩
set_option maxHeartbeats 2000000 in
theorem ref_text (A : Option Addr) (n c : Nat) (l : List Int) (W : World) (hA : Rd W W.heap.size 1 A n (ints l)) (hok : ∀ x ∈ l, inI x) (hn : n ≤ 100) :
    Calls Tryz.prog 95 #[.slice A n c] W (RetSl 1 (encN (l.map It.int)).length (byts (encN (l.map It.int))) W) := by
  have hl : l.length ≤ 100 := by have := hA.1; rw [ints_length, Nat.mul_one] at this; omega
  have q := ref_ints A n c l W hA hn
  go_enter Tryz.func95, Tryz.ntmps95
  go_wp2_with fail
  with_reducible refine q.mono ?_
  rintro e w2 ⟨A2, c2, rfl, b2, hR⟩
  have q2 := ref_encode A2 (l.map It.int).length c2 (l.map It.int) w2 hR (by
    intro x hx
    obtain ⟨y, hy, rfl⟩ := List.mem_map.1 hx
    exact hok y hy) (by rw [List.length_map]; omega)
  unfold listV at q2 ⊢
  rw [List.length_map] at q2
  clear q
  go_wp2_with fail
  with_reducible refine q2.mono ?_
  rintro e w3 ⟨v3, rfl, b3, hS⟩
  have hb3 := bCall b2 b3
  clear q2
  go_wp2_with fail
  go_ret
  exact ⟨_, rfl, hb3, hS⟩

theorem convert_row {w : World} {A : Option Addr} {c : Nat} {d : List Nat} (h : Rd w w.heap.size 1 A 32 (byts d)) (hl : d.length = 32) (ho : okB d) : (convert 128 9 (.slice A 32 c)).run Tryz.prog w = .ok (.string (dgS d)) w := by
  obtain ⟨b, off, rfl, _, hc⟩ := h.2 (by omega)
  have := run_convert_bytes_back (P := Tryz.prog) w 128 9 5 ⟨b, off, none⟩ c (dgB d) Tryz.underlying128 Tryz.underlying5 Tryz.underlying9 (fun j hj => by
    have hj' : j < d.length := by simpa [dgB] using hj
    rw [addr_plus, dgB_at ho j hj]
    refine hc j _ ?_
    simp [byts, hj'])
  rw [show (dgB d).length = 32 by simp [dgB, hl]] at this
  exact this
set_option maxRecDepth 100000 in
set_option maxHeartbeats 4000000 in
theorem ref_vtext (d : List Nat) (W : World) (hd : d.length = 32) (ho : okB d) : Calls Tryz.prog 108 #[.agg (byts d).toArray] W (Ret (textV (dgS d)) W) := by
  have HL := Lib.hid hd
  have BD := (Blk.new W 54 (byts d).toArray _ rfl).alloc (.cells #[.int .i64 0, .int .i64 0, .string ⟨#[]⟩, .slice none 0 0] 140)
  have BR := Blk.new (W.alloc (.cells (byts d).toArray 54)) 140 #[.int .i64 0, .int .i64 0, .string ⟨#[]⟩, .slice none 0 0] (W.heap.size + 1) (by simp)
  have hb := bAl (bAl (bRefl W) (.cells (byts d).toArray 54)) (.cells #[.int .i64 0, .int .i64 0, .string ⟨#[]⟩, .slice none 0 0] 140)
  clear hd
  go_enter Tryz.func108, Tryz.ntmps108
  go_upto_region 1 with fail
  generalize (W.alloc (.cells (byts d).toArray 54)).alloc (.cells #[.int .i64 0, .int .i64 0, .string ⟨#[]⟩, .slice none 0 0] 140) = w1 at *
  have hown0 := World.ownsRow_lit (base := W.heap.size + 2) (e := 5) (size := 1) w1 #[] 0 BR.lt (by unfold maxLen; omega) rfl
  have hb1 := bAl hb (.cells #[] 5)
  have BD1 := BD.alloc (.cells #[] 5)
  have BR1 := BR.alloc (.cells #[] 5)
  go_wp2_with fail
  clear hb BD BR
  generalize w1.alloc (.cells #[] 5) = w2 at *
  go_loopw [3, 4] (fun v i wr => ∃ k : Nat, k ≤ 32 ∧ i = .int .i64 k ∧ wr.ownsRow (W.heap.size + 2) 5 1 v k (byts (d.take k)) ∧ Below W.heap.size W wr ∧ Blk wr W.heap.size 54 (byts d).toArray ∧ Blk wr (W.heap.size + 1) 140 #[.int .i64 0, .int .i64 0, .string ⟨#[]⟩, .slice none 0 0]) (fun _ i _ => 32 - (intOf i).toNat)
  case atStart => exact ⟨0, Nat.zero_le _, rfl, hown0, hb1, BD1, BR1⟩
  case round =>
    clear hown0 hb1 BD1 BR1
    obtain ⟨k, hk, rfl, hown, hb, BD, BR⟩ := hrel
    by_cases hlt : k < 32
    · obtain ⟨x, hx⟩ : ∃ x, Hid (d[k]? = some x) := ⟨_, Lib.hid (List.getElem?_eq_getElem (by rw [HL.out]; exact hlt))⟩
      have c0 : wr.cell? ⟨W.heap.size, k, none⟩ = some (.int .u8 x) := by rw [BD.cell]; simpa using byts_at hx.out
      have hsn : Hid (byts (d.take (k + 1)) = byts (d.take k) ++ [.int .u8 (x : Nat)]) := by
        obtain ⟨hk, rfl⟩ := List.getElem?_eq_some_iff.1 hx.out
        show _ = _
        rw [List.take_succ_eq_append_getElem hk]; unfold byts; rw [List.map_append]; rfl
      have hone : ∀ q ∈ [Value.int .u8 (x : Int)], q.oneCell' = true := by intro q hq; simp at hq; subst hq; rfl
      have h63 : k + 1 ≤ maxLen := by unfold maxLen; omega
      have hby : (k + 1) * 1 ≤ 140737488355328 := by omega
      have hbs : W.heap.size + 2 ≤ wr.heap.size := BR.lt
      have i1 : (k : Int) < 32 := by omega
      go_wp2_with (at_builtin; refine wpList_append1G wr [.int .u8 (x : Int)] (.tmp 10) (.tmp 14) 128 (W.heap.size + 2) 5 (.int .u8 0) 1 1 _ k _ rfl rfl Tryz.underlying128 byte_info rfl (by omega) rfl hown rfl rfl hone h63 hby hbs ?_; intro v' w' hown4 hg4)
      have b4 := hg4.below hown hbs
      go_roundw
      case rel => exact ⟨k + 1, by omega, by go_num, by rw [hsn.out]; exact hown4, hb.trans (b4.mono (by omega)), BD.below b4 (by omega), BR.below b4 (by omega)⟩
      case measure => simp [intOf]; omega
    · have hk32 : k = 32 := by omega
      have hX : byts (d.take k) = byts d := by rw [List.take_of_length_le (by have := HL.out; omega)]
      rw [hX, hk32] at hown
      clear hk32 hX
      obtain ⟨A2, c2, hv, hR, _⟩ := Sl.of_own hown
      subst hv
      have hcv := convert_row (c := c2) hR HL.out ho
      have z0 := BR.frozen 0
      have z1 := BR.frozen 1
      have z2 := BR.frozen 2
      have z3 := BR.frozen 3
      obtain ⟨y0, y1, y2, y3⟩ := box_cells BR
      have BR2 := (((BR.set_ 0 (.int .i64 2)).set_ 1 (.int .i64 0)).set_ 2 (.string (dgS d))).set_ 3 (.slice none 0 0)
      have hb2 := bSet (bSet (bSet (bSet hb (p := ⟨W.heap.size + 1, 0, none⟩) (by show W.heap.size ≤ W.heap.size + 1; omega) (.int .i64 2)) (p := ⟨W.heap.size + 1, 1, none⟩) (by show W.heap.size ≤ W.heap.size + 1; omega) (.int .i64 0)) (p := ⟨W.heap.size + 1, 2, none⟩) (by show W.heap.size ≤ W.heap.size + 1; omega) (.string (dgS d))) (p := ⟨W.heap.size + 1, 3, none⟩) (by show W.heap.size ≤ W.heap.size + 1; omega) (.slice none 0 0)
      clear hown hb BD BR hR
      go_wp2_with fail
      generalize (((wr.setCell ⟨W.heap.size + 1, 0, none⟩ (.int .i64 2)).setCell ⟨W.heap.size + 1, 1, none⟩ (.int .i64 0)).setCell ⟨W.heap.size + 1, 2, none⟩ (.string (dgS d))).setCell ⟨W.heap.size + 1, 3, none⟩ (.slice none 0 0) = w8 at *
      have r0 : w8.cell? ⟨W.heap.size + 1, 0, none⟩ = some (.int .i64 2) := by simpa using BR2.cell 0
      have r1 : w8.cell? ⟨W.heap.size + 1, 1, none⟩ = some (.int .i64 0) := by simpa using BR2.cell 1
      have r2 : w8.cell? ⟨W.heap.size + 1, 2, none⟩ = some (.string (dgS d)) := by simpa using BR2.cell 2
      have r3 : w8.cell? ⟨W.heap.size + 1, 3, none⟩ = some (.slice none 0 0) := by simpa using BR2.cell 3
      exact bodyPost_ret (v := textV (dgS d)) (by simp [results, Tryz.results108, go_sem, textV, r0, r1, r2, r3]) rfl ⟨rfl, hb2⟩
end Go.Proofs.YthgppaiiapkdjaaGreatDoor

/-
  The reference's hashes and commitments; walked.
-/
namespace Go.Proofs.YthgppaiiapkdjaaGreatDoor
open Go.RowKit

set_option maxRecDepth 100000 in
set_option maxHeartbeats 4000000 in
theorem ref_hash (s : ByteArray) (A : Option Addr) (n c : Nat) (l : List Nat) (W : World) (hA : Rd W W.heap.size 1 A n (byts l)) (hnil : A = none → n = 0 ∧ c = 0) (ho : okB l) (hs : s.size ≤ 1000000) (hn : n ≤ 70368744177600) :
    Calls Tryz.prog 94 #[.string s, .slice A n c] W (Ret (.int .i64 (hashV (sb s) l : Nat)) W) := by
  have q := ref_tagged s A n c l W hA hnil ho hs hn
  obtain ⟨d, hd⟩ : ∃ d, Hid (d = taggedN (sb s) l) := ⟨_, Lib.hid rfl⟩
  have hdl : Hid (d.length = 32) := by show _ = _; rw [hd.out, taggedN_len]
  have hdo : okB d := by rw [hd.out]; exact okB_sha _
  rw [← hd.out] at q
  go_enter Tryz.func94, Tryz.ntmps94
  go_wp2_with fail
  with_reducible refine q.mono ?_
  rintro e w1 ⟨rfl, hb⟩
  clear q
  unfold dig
  have st1 := store_dig d hdl.out
  have ln1 : (byts d).length = 32 := by rw [byts_length, hdl.out]
  go_upto_region 2 with fail
  have BT := Blk.new w1 54 (byts d).toArray _ rfl
  have hb2 := bAl hb (.cells (byts d).toArray 54)
  clear hb st1 ln1
  generalize w1.alloc (.cells (byts d).toArray 54) = w2 at *
  generalize w1.heap.size = bt at *
  obtain ⟨x, hx⟩ : ∃ x, Hid (d[0]? = some x) := ⟨_, Lib.hid (List.getElem?_eq_getElem (by rw [hdl.out]; omega))⟩
  have hx8 : x < 256 := hdo x (List.mem_of_getElem? hx.out)
  have c0 : w2.cell? ⟨bt, 0, none⟩ = some (.int .u8 x) := by rw [BT.cell]; simpa using byts_at hx.out
  have h1 : Hid (((accB (headN d) 1 : Nat) : Int) = (x : Int) % 128) := by
    show _ = _
    have e : accB (headN d) 1 = x % 128 := by
      show 0 * 256 + (headN d)[0]?.getD 0 = _
      unfold headN
      rw [hx.out]; simp
    rw [e]; omega
  have hho := okB_head hdo
  go_wp2_with fail
  go_loop [6, 7] (fun s i => ∃ k : Nat, 1 ≤ k ∧ k ≤ 8 ∧ i = .int .i64 k ∧ s = .int .i64 (accB (headN d) k : Nat)) (fun _ i => 8 - (intOf i).toNat)
  case atStart => exact ⟨1, Nat.le_refl _, by omega, rfl, by rw [h1.out]⟩
  case round =>
    clear c0
    obtain ⟨k, hk1, hk, rfl, rfl⟩ := hrel
    by_cases hlt : k < 8
    · obtain ⟨y, hy⟩ : ∃ y, Hid (d[k]? = some y) := ⟨_, Lib.hid (List.getElem?_eq_getElem (by rw [hdl.out]; omega))⟩
      have hy8 : y < 256 := hdo y (List.mem_of_getElem? hy.out)
      have c0 : w2.cell? ⟨bt, k, none⟩ = some (.int .u8 y) := by rw [BT.cell]; simpa using byts_at hy.out
      have hacc : accB (headN d) k ≤ 36028797018963967 := by
        rcases k with _ | k
        · simp [accB]
        · have h := accB_head d hdo k
          have h2 : 128 * 256 ^ k ≤ 128 * 256 ^ 6 := Nat.mul_le_mul_left _ (Nat.pow_le_pow_right (by omega) (by omega))
          have h3 : 128 * 256 ^ 6 = 36028797018963968 := by decide
          omega
      have hs : Hid ((accB (headN d) k : Int) * 256 + (y : Int) = ((accB (headN d) (k + 1) : Nat) : Int)) := by
        show _ = ((accB (headN d) k * 256 + (headN d)[k]?.getD 0 : Nat) : Int)
        have e : (headN d)[k]? = some y := by
          unfold headN
          cases k with
          | zero => omega
          | succ k => rw [List.getElem?_cons_succ, List.getElem?_drop, Nat.add_comm]; exact hy.out
        rw [e]; simp
      have hkI : (k : Int) < 32 := by omega
      go_wp2_with fail
      exact ⟨⟨k + 1, by omega, by omega, by go_num, by rw [← hs.out]⟩, by simp [intOf]; omega⟩
    · have hk8 : Hid (accB (headN d) k % 1073741789 = hashV (sb s) l) := by
        have e : k = 8 := by omega
        show _ = _
        rw [e]
        unfold hashV hashN
        rw [← hd.out]
      go_wp2_with fail
      go_ret
      exact ⟨ret_int (by rw [← hk8.out]; simp), hb2⟩

/-- Four cells, stored one after the other. -/
def set4 (w : World) (b : Nat) (v0 v1 v2 v3 : Value) : World :=
  (((w.setCell ⟨b, 0, none⟩ v0).setCell ⟨b, 1, none⟩ v1).setCell ⟨b, 2, none⟩ v2).setCell ⟨b, 3, none⟩ v3
theorem Blk.set4 {w : World} {b : Nat} {t : TypeId} {u0 u1 u2 u3 : Value} (h : Blk w b t #[u0, u1, u2, u3]) (v0 v1 v2 v3 : Value) : Blk (Proofs.YthgppaiiapkdjaaGreatDoor.set4 w b v0 v1 v2 v3) b t #[v0, v1, v2, v3] := by
  have := (((h.set_ 0 v0).set_ 1 v1).set_ 2 v2).set_ 3 v3
  unfold Proofs.YthgppaiiapkdjaaGreatDoor.set4
  simpa using this
theorem bSet4 {a w : World} (h : Below a.heap.size a w) {b : Nat} (hb : a.heap.size ≤ b) (v0 v1 v2 v3 : Value) : Below a.heap.size a (set4 w b v0 v1 v2 v3) :=
  bSet (bSet (bSet (bSet h (p := ⟨b, 0, none⟩) hb _) (p := ⟨b, 1, none⟩) hb _) (p := ⟨b, 2, none⟩) hb _) (p := ⟨b, 3, none⟩) hb _
theorem Rd.far {w : World} {B sz n b off : Nat} {xs : List Value} (h : Rd w B sz (some ⟨b, off, none⟩) n xs) {p : Addr} (hp : b ≠ p.block) (u : Value) : Rd (w.setCell p u) B sz (some ⟨b, off, none⟩) n xs :=
  ⟨h.1, fun hn => by
    obtain ⟨b', off', e, hb, hc⟩ := h.2 hn
    injection e with e
    injection e with e1 e2
    subst e1; subst e2
    refine ⟨_, _, rfl, hb, fun j v hj => ?_⟩
    rw [← hc j v hj]
    have := Below.heap_setCell w p u b hp
    unfold World.cell?
    simp only [this]⟩
theorem Rd.far4 {w : World} {sz n b g off : Nat} {xs : List Value} (h : Rd w w.heap.size sz (some ⟨b, off, none⟩) n xs) (hp : b ≠ g) (v0 v1 v2 v3 : Value) : Rd (set4 w g v0 v1 v2 v3) (set4 w g v0 v1 v2 v3).heap.size sz (some ⟨b, off, none⟩) n xs :=
  ((((h.far (p := ⟨g, 0, none⟩) hp v0).far (p := ⟨g, 1, none⟩) hp v1).far (p := ⟨g, 2, none⟩) hp v2).far (p := ⟨g, 3, none⟩) hp v3).more (by simp [set4, World.setCell])

/-- An opening, as it lies in a block. -/
theorem Opn.cellsR {o : Opn} : (o.cl)[0]? = some (.int .i64 o.at_) ∧ (o.cl)[1]? = some (.int .i64 o.r0) ∧ (o.cl)[2]? = some (.int .i64 o.r1) ∧ (o.cl)[3]? = some (.int .i64 o.r2) := ⟨rfl, rfl, rfl, rfl⟩
theorem opn_loads {w : World} {b : Nat} {o : Opn} (ho : o.ok) (B : Blk w b 72 o.cl.toArray) :
    (Instr.loadAt 54 (.pointer (some ⟨b, 4, none⟩))).run Tryz.prog w = .ok (.agg (byts o.salt).toArray) w ∧ w.cell? ⟨b, 0, none⟩ = some (.int .i64 o.at_) ∧ w.cell? ⟨b, 1, none⟩ = some (.int .i64 o.r0) ∧ w.cell? ⟨b, 2, none⟩ = some (.int .i64 o.r1) ∧ w.cell? ⟨b, 3, none⟩ = some (.int .i64 o.r2) := by
  refine ⟨load_mid B o.salt ho.2.2.2.2.1 (fun j v hj => ?_), B.cell 0, B.cell 1, B.cell 2, B.cell 3⟩
  simp only [Opn.cl, List.getElem?_toArray]
  rw [List.getElem?_append_right (by simp), List.length_cons, List.length_cons, List.length_cons, List.length_cons, List.length_nil]
  rw [show 4 + j - (0 + 1 + 1 + 1 + 1) = j by omega]; exact hj
/-- The values of an opening. -/
def Opn.its2 (o : Opn) : List It := [.int o.at_, .int o.r0, .int o.r1, .int o.r2, .text (dgS o.salt)]
theorem Opn.its2_eq (o : Opn) : o.its2 = o.its.map Nd.it := rfl
theorem Opn.its2_cells (o : Opn) : o.its2.flatMap It.cells = [.int .i64 1, .int .i64 o.at_, .string ⟨#[]⟩, .slice none 0 0, .int .i64 1, .int .i64 o.r0, .string ⟨#[]⟩, .slice none 0 0, .int .i64 1, .int .i64 o.r1, .string ⟨#[]⟩, .slice none 0 0, .int .i64 1, .int .i64 o.r2, .string ⟨#[]⟩, .slice none 0 0, .int .i64 2, .int .i64 0, .string (dgS o.salt), .slice none 0 0] := rfl

set_option maxRecDepth 100000 in
set_option maxHeartbeats 4000000 in
theorem ref_value (o : Opn) (W : World) (ho : o.ok) : Calls Tryz.prog 97 #[.agg o.cl.toArray] W (RetV o.its2 W) := by
  have BO := (Blk.new W 72 o.cl.toArray _ rfl).alloc (.cells #[.int .i64 0, .int .i64 0, .string ⟨#[]⟩, .slice none 0 0] 140)
  have BR := Blk.new (W.alloc (.cells o.cl.toArray 72)) 140 #[.int .i64 0, .int .i64 0, .string ⟨#[]⟩, .slice none 0 0] (W.heap.size + 1) (by simp)
  have hb := bAl (bAl (bRefl W) (.cells o.cl.toArray 72)) (.cells #[.int .i64 0, .int .i64 0, .string ⟨#[]⟩, .slice none 0 0] 140)
  go_enter Tryz.func97, Tryz.ntmps97
  go_upto_region 1 with fail
  generalize (W.alloc (.cells o.cl.toArray 72)).alloc (.cells #[.int .i64 0, .int .i64 0, .string ⟨#[]⟩, .slice none 0 0] 140) = w2 at *
  have KS : Hid (∀ w', Below w2.heap.size w2 w' → _) := Lib.hid (fun w' h => opn_loads ho (BO.below h BO.lt))
  have o5 := ho.2.2.2.2.1
  have o6 := ho.2.2.2.2.2
  have q2 := fun w => ref_vtext o.salt w o5 o6
  unfold textV at q2
  have q1 : ∀ n w, _ := ref_vnum
  unfold intV at q1
  have q3 : ∀ A n c w, _ := ref_vlist
  unfold listV at q3
  clear o5 o6
  refine wp_region_sched (fun w' => (Instr.loadAt 54 (.pointer (some ⟨W.heap.size, 4, none⟩))).run Tryz.prog w' = .ok (.agg (byts o.salt).toArray) w' ∧ w'.cell? ⟨W.heap.size, 0, none⟩ = some (.int .i64 o.at_) ∧ w'.cell? ⟨W.heap.size, 1, none⟩ = some (.int .i64 o.r0) ∧ w'.cell? ⟨W.heap.size, 2, none⟩ = some (.int .i64 o.r1) ∧ w'.cell? ⟨W.heap.size, 3, none⟩ = some (.int .i64 o.r2)) 20 [(0, 1), (1, 2), (3, 1), (4, 1), (5, 2), (7, 1), (8, 1), (9, 2), (11, 1), (12, 1), (13, 2), (15, 1), (16, 2), (2, 0), (6, 0), (10, 0), (14, 0), (17, 0), (18, 0), (19, 0), (20, 3)] (by kernel_rfl) (by kernel_rfl) (by exact KS.out _ (by repeat (first | with_reducible exact B8 | with_reducible exact B7 | with_reducible exact bRefl _ | with_reducible refine bDr ?_ | with_reducible refine bAl ?_ _))) ?_
  simp only [pickS, List.getElem?_cons_zero, List.getElem?_cons_succ]
  refine wpSched_take (v := ?_) (by rfl) ?_ ?_
  rotate_left 1
  focus (intro w hSw; clear hSw; go_simp; try with_reducible rfl)
  try simp only [Act.put, List.setIfInBounds_toArray, List.set_cons_zero, List.set_cons_succ]
  refine wpSched_read (v := ?_) (by rfl) ?_ ?_
  rotate_left 1
  focus (intro w hSw; go_simp; try with_reducible rfl)
  try simp only [Act.put, List.setIfInBounds_toArray, List.set_cons_zero, List.set_cons_succ]
  iterate 2 (refine wpSched_take (v := ?_) (by rfl) ?_ ?_; rotate_left 1; focus (intro w hSw; clear hSw; go_simp; try with_reducible rfl); try simp only [Act.put, List.setIfInBounds_toArray, List.set_cons_zero, List.set_cons_succ])
  refine wpSched_read (v := ?_) (by rfl) ?_ ?_
  rotate_left 1
  focus (intro w hSw; go_simp; try with_reducible rfl)
  try simp only [Act.put, List.setIfInBounds_toArray, List.set_cons_zero, List.set_cons_succ]
  iterate 2 (refine wpSched_take (v := ?_) (by rfl) ?_ ?_; rotate_left 1; focus (intro w hSw; clear hSw; go_simp; try with_reducible rfl); try simp only [Act.put, List.setIfInBounds_toArray, List.set_cons_zero, List.set_cons_succ])
  refine wpSched_read (v := ?_) (by rfl) ?_ ?_
  rotate_left 1
  focus (intro w hSw; go_simp; try with_reducible rfl)
  try simp only [Act.put, List.setIfInBounds_toArray, List.set_cons_zero, List.set_cons_succ]
  iterate 2 (refine wpSched_take (v := ?_) (by rfl) ?_ ?_; rotate_left 1; focus (intro w hSw; clear hSw; go_simp; try with_reducible rfl); try simp only [Act.put, List.setIfInBounds_toArray, List.set_cons_zero, List.set_cons_succ])
  refine wpSched_read (v := ?_) (by rfl) ?_ ?_
  rotate_left 1
  focus (intro w hSw; go_simp; try with_reducible rfl)
  try simp only [Act.put, List.setIfInBounds_toArray, List.set_cons_zero, List.set_cons_succ]
  refine wpSched_take (v := ?_) (by rfl) ?_ ?_
  rotate_left 1
  focus (intro w hSw; clear hSw; go_simp; try with_reducible rfl)
  try simp only [Act.put, List.setIfInBounds_toArray, List.set_cons_zero, List.set_cons_succ]
  refine wpSched_read (v := ?_) (by rfl) ?_ ?_
  rotate_left 1
  focus (intro w hSw; (first | refine (exec_load rfl rfl hSw).trans ?_ | refine (exec_load rfl rfl hSw.1).trans ?_ | refine (exec_load rfl rfl hSw.2.1).trans ?_ | refine (exec_load rfl rfl hSw.2.2.1).trans ?_ | refine (exec_load rfl rfl hSw.2.2.2.1).trans ?_ | refine (exec_load rfl rfl hSw.2.2.2.2.1).trans ?_ | refine (exec_load rfl rfl hSw.2.2.2.2.2.1).trans ?_); with_reducible rfl)
  try simp only [Act.put, List.setIfInBounds_toArray, List.set_cons_zero, List.set_cons_succ]
  refine wpSched_force (fun K hK => ?_)
  go_simp
  first | (go_at_call 107; (with_reducible refine (q1 _ _).mono ?_); rintro e w9 ⟨rfl, b9⟩; have B7 : Below w2.heap.size w2 w9 := bCall (by repeat (first | with_reducible exact B7 | with_reducible exact bRefl _ | with_reducible refine bDr ?_ | with_reducible refine bAl ?_ _)) b9) | (go_at_call 108; (with_reducible refine (q2 _).mono ?_); rintro e w9 ⟨rfl, b9⟩; have B7 : Below w2.heap.size w2 w9 := bCall (by repeat (first | with_reducible exact B7 | with_reducible exact bRefl _ | with_reducible refine bDr ?_ | with_reducible refine bAl ?_ _)) b9) | (go_at_call 106; (with_reducible refine (q3 _ _ _ _).mono ?_); rintro e w8 ⟨rfl, b8⟩; have HR : Rd w8 w8.heap.size 4 (some ⟨w9.heap.size, 0, none⟩) 5 (o.its2.flatMap It.cells) := ((Rd.new w9 (o.its2.flatMap It.cells) 140 4 5 _ rfl rfl).below b8).more b8.size; have B8 : Below w2.heap.size w2 w8 := bCall (by repeat (first | with_reducible exact B7 | with_reducible exact bRefl _ | with_reducible refine bDr ?_ | with_reducible refine bAl ?_ _)) b8) | skip
  refine hK.out _ _ (by exact KS.out _ (by repeat (first | with_reducible exact B8 | with_reducible exact B7 | with_reducible exact bRefl _ | with_reducible refine bDr ?_ | with_reducible refine bAl ?_ _))) (fun hHeld => ?_)
  clear hHeld hK K
  try simp only [Act.put, List.setIfInBounds_toArray, List.set_cons_zero, List.set_cons_succ]
  refine wpSched_force (fun K hK => ?_)
  go_simp
  first | (go_at_call 107; (with_reducible refine (q1 _ _).mono ?_); rintro e w9 ⟨rfl, b9⟩; have B7 : Below w2.heap.size w2 w9 := bCall (by repeat (first | with_reducible exact B7 | with_reducible exact bRefl _ | with_reducible refine bDr ?_ | with_reducible refine bAl ?_ _)) b9) | (go_at_call 108; (with_reducible refine (q2 _).mono ?_); rintro e w9 ⟨rfl, b9⟩; have B7 : Below w2.heap.size w2 w9 := bCall (by repeat (first | with_reducible exact B7 | with_reducible exact bRefl _ | with_reducible refine bDr ?_ | with_reducible refine bAl ?_ _)) b9) | (go_at_call 106; (with_reducible refine (q3 _ _ _ _).mono ?_); rintro e w8 ⟨rfl, b8⟩; have HR : Rd w8 w8.heap.size 4 (some ⟨w9.heap.size, 0, none⟩) 5 (o.its2.flatMap It.cells) := ((Rd.new w9 (o.its2.flatMap It.cells) 140 4 5 _ rfl rfl).below b8).more b8.size; have B8 : Below w2.heap.size w2 w8 := bCall (by repeat (first | with_reducible exact B7 | with_reducible exact bRefl _ | with_reducible refine bDr ?_ | with_reducible refine bAl ?_ _)) b8) | skip
  refine hK.out _ _ (by exact KS.out _ (by repeat (first | with_reducible exact B8 | with_reducible exact B7 | with_reducible exact bRefl _ | with_reducible refine bDr ?_ | with_reducible refine bAl ?_ _))) (fun hHeld => ?_)
  clear hHeld hK K
  try simp only [Act.put, List.setIfInBounds_toArray, List.set_cons_zero, List.set_cons_succ]
  refine wpSched_force (fun K hK => ?_)
  go_simp
  first | (go_at_call 107; (with_reducible refine (q1 _ _).mono ?_); rintro e w9 ⟨rfl, b9⟩; have B7 : Below w2.heap.size w2 w9 := bCall (by repeat (first | with_reducible exact B7 | with_reducible exact bRefl _ | with_reducible refine bDr ?_ | with_reducible refine bAl ?_ _)) b9) | (go_at_call 108; (with_reducible refine (q2 _).mono ?_); rintro e w9 ⟨rfl, b9⟩; have B7 : Below w2.heap.size w2 w9 := bCall (by repeat (first | with_reducible exact B7 | with_reducible exact bRefl _ | with_reducible refine bDr ?_ | with_reducible refine bAl ?_ _)) b9) | (go_at_call 106; (with_reducible refine (q3 _ _ _ _).mono ?_); rintro e w8 ⟨rfl, b8⟩; have HR : Rd w8 w8.heap.size 4 (some ⟨w9.heap.size, 0, none⟩) 5 (o.its2.flatMap It.cells) := ((Rd.new w9 (o.its2.flatMap It.cells) 140 4 5 _ rfl rfl).below b8).more b8.size; have B8 : Below w2.heap.size w2 w8 := bCall (by repeat (first | with_reducible exact B7 | with_reducible exact bRefl _ | with_reducible refine bDr ?_ | with_reducible refine bAl ?_ _)) b8) | skip
  refine hK.out _ _ (by exact KS.out _ (by repeat (first | with_reducible exact B8 | with_reducible exact B7 | with_reducible exact bRefl _ | with_reducible refine bDr ?_ | with_reducible refine bAl ?_ _))) (fun hHeld => ?_)
  clear hHeld hK K
  try simp only [Act.put, List.setIfInBounds_toArray, List.set_cons_zero, List.set_cons_succ]
  refine wpSched_force (fun K hK => ?_)
  go_simp
  first | (go_at_call 107; (with_reducible refine (q1 _ _).mono ?_); rintro e w9 ⟨rfl, b9⟩; have B7 : Below w2.heap.size w2 w9 := bCall (by repeat (first | with_reducible exact B7 | with_reducible exact bRefl _ | with_reducible refine bDr ?_ | with_reducible refine bAl ?_ _)) b9) | (go_at_call 108; (with_reducible refine (q2 _).mono ?_); rintro e w9 ⟨rfl, b9⟩; have B7 : Below w2.heap.size w2 w9 := bCall (by repeat (first | with_reducible exact B7 | with_reducible exact bRefl _ | with_reducible refine bDr ?_ | with_reducible refine bAl ?_ _)) b9) | (go_at_call 106; (with_reducible refine (q3 _ _ _ _).mono ?_); rintro e w8 ⟨rfl, b8⟩; have HR : Rd w8 w8.heap.size 4 (some ⟨w9.heap.size, 0, none⟩) 5 (o.its2.flatMap It.cells) := ((Rd.new w9 (o.its2.flatMap It.cells) 140 4 5 _ rfl rfl).below b8).more b8.size; have B8 : Below w2.heap.size w2 w8 := bCall (by repeat (first | with_reducible exact B7 | with_reducible exact bRefl _ | with_reducible refine bDr ?_ | with_reducible refine bAl ?_ _)) b8) | skip
  refine hK.out _ _ (by exact KS.out _ (by repeat (first | with_reducible exact B8 | with_reducible exact B7 | with_reducible exact bRefl _ | with_reducible refine bDr ?_ | with_reducible refine bAl ?_ _))) (fun hHeld => ?_)
  clear hHeld hK K
  try simp only [Act.put, List.setIfInBounds_toArray, List.set_cons_zero, List.set_cons_succ]
  refine wpSched_force (fun K hK => ?_)
  go_simp
  first | (go_at_call 107; (with_reducible refine (q1 _ _).mono ?_); rintro e w9 ⟨rfl, b9⟩; have B7 : Below w2.heap.size w2 w9 := bCall (by repeat (first | with_reducible exact B7 | with_reducible exact bRefl _ | with_reducible refine bDr ?_ | with_reducible refine bAl ?_ _)) b9) | (go_at_call 108; (with_reducible refine (q2 _).mono ?_); rintro e w9 ⟨rfl, b9⟩; have B7 : Below w2.heap.size w2 w9 := bCall (by repeat (first | with_reducible exact B7 | with_reducible exact bRefl _ | with_reducible refine bDr ?_ | with_reducible refine bAl ?_ _)) b9) | (go_at_call 106; (with_reducible refine (q3 _ _ _ _).mono ?_); rintro e w8 ⟨rfl, b8⟩; have HR : Rd w8 w8.heap.size 4 (some ⟨w9.heap.size, 0, none⟩) 5 (o.its2.flatMap It.cells) := ((Rd.new w9 (o.its2.flatMap It.cells) 140 4 5 _ rfl rfl).below b8).more b8.size; have B8 : Below w2.heap.size w2 w8 := bCall (by repeat (first | with_reducible exact B7 | with_reducible exact bRefl _ | with_reducible refine bDr ?_ | with_reducible refine bAl ?_ _)) b8) | skip
  refine hK.out _ _ (by exact KS.out _ (by repeat (first | with_reducible exact B8 | with_reducible exact B7 | with_reducible exact bRefl _ | with_reducible refine bDr ?_ | with_reducible refine bAl ?_ _))) (fun hHeld => ?_)
  clear hHeld hK K
  try simp only [Act.put, List.setIfInBounds_toArray, List.set_cons_zero, List.set_cons_succ]
  refine wpSched_force (fun K hK => ?_)
  go_simp
  first | (go_at_call 107; (with_reducible refine (q1 _ _).mono ?_); rintro e w9 ⟨rfl, b9⟩; have B7 : Below w2.heap.size w2 w9 := bCall (by repeat (first | with_reducible exact B7 | with_reducible exact bRefl _ | with_reducible refine bDr ?_ | with_reducible refine bAl ?_ _)) b9) | (go_at_call 108; (with_reducible refine (q2 _).mono ?_); rintro e w9 ⟨rfl, b9⟩; have B7 : Below w2.heap.size w2 w9 := bCall (by repeat (first | with_reducible exact B7 | with_reducible exact bRefl _ | with_reducible refine bDr ?_ | with_reducible refine bAl ?_ _)) b9) | (go_at_call 106; (with_reducible refine (q3 _ _ _ _).mono ?_); rintro e w8 ⟨rfl, b8⟩; have HR : Rd w8 w8.heap.size 4 (some ⟨w9.heap.size, 0, none⟩) 5 (o.its2.flatMap It.cells) := ((Rd.new w9 (o.its2.flatMap It.cells) 140 4 5 _ rfl rfl).below b8).more b8.size; have B8 : Below w2.heap.size w2 w8 := bCall (by repeat (first | with_reducible exact B7 | with_reducible exact bRefl _ | with_reducible refine bDr ?_ | with_reducible refine bAl ?_ _)) b8) | skip
  refine hK.out _ _ (by exact KS.out _ (by repeat (first | with_reducible exact B8 | with_reducible exact B7 | with_reducible exact bRefl _ | with_reducible refine bDr ?_ | with_reducible refine bAl ?_ _))) (fun hHeld => ?_)
  clear hHeld hK K
  try simp only [Act.put, List.setIfInBounds_toArray, List.set_cons_zero, List.set_cons_succ]
  refine wpSched_force (fun K hK => ?_)
  go_simp
  first | (go_at_call 107; (with_reducible refine (q1 _ _).mono ?_); rintro e w9 ⟨rfl, b9⟩; have B7 : Below w2.heap.size w2 w9 := bCall (by repeat (first | with_reducible exact B7 | with_reducible exact bRefl _ | with_reducible refine bDr ?_ | with_reducible refine bAl ?_ _)) b9) | (go_at_call 108; (with_reducible refine (q2 _).mono ?_); rintro e w9 ⟨rfl, b9⟩; have B7 : Below w2.heap.size w2 w9 := bCall (by repeat (first | with_reducible exact B7 | with_reducible exact bRefl _ | with_reducible refine bDr ?_ | with_reducible refine bAl ?_ _)) b9) | (go_at_call 106; (with_reducible refine (q3 _ _ _ _).mono ?_); rintro e w8 ⟨rfl, b8⟩; have HR : Rd w8 w8.heap.size 4 (some ⟨w9.heap.size, 0, none⟩) 5 (o.its2.flatMap It.cells) := ((Rd.new w9 (o.its2.flatMap It.cells) 140 4 5 _ rfl rfl).below b8).more b8.size; have B8 : Below w2.heap.size w2 w8 := bCall (by repeat (first | with_reducible exact B7 | with_reducible exact bRefl _ | with_reducible refine bDr ?_ | with_reducible refine bAl ?_ _)) b8) | skip
  refine hK.out _ _ (by exact KS.out _ (by repeat (first | with_reducible exact B8 | with_reducible exact B7 | with_reducible exact bRefl _ | with_reducible refine bDr ?_ | with_reducible refine bAl ?_ _))) (fun hHeld => ?_)
  clear hHeld hK K
  try simp only [Act.put, List.setIfInBounds_toArray, List.set_cons_zero, List.set_cons_succ]
  refine wpSched_last ?_
  first | simp only [List.map_nil] | simp only [List.map_cons, List.map_nil]
  have BR2 := BR.below B8 BR.lt
  have hb2 := bCall hb B8
  have hne : w9.heap.size ≠ W.heap.size + 1 := by have := BR.lt; have := B7.size; omega
  have z0 := BR2.frozen 0
  have z1 := BR2.frozen 1
  have z2 := BR2.frozen 2
  have z3 := BR2.frozen 3
  obtain ⟨y0, y1, y2, y3⟩ := box_cells BR2
  generalize w9.heap.size = g9 at *
  clear KS B7 B8 BR BO hb q1 q2 q3
  have BN := BR2.set4 (.int .i64 3) (.int .i64 0) (.string ⟨#[]⟩) (.slice (some ⟨g9, 0, none⟩) 5 5)
  have HN := HR.far4 hne (.int .i64 3) (.int .i64 0) (.string ⟨#[]⟩) (.slice (some ⟨g9, 0, none⟩) 5 5)
  have hbN := bSet4 hb2 (show W.heap.size ≤ W.heap.size + 1 by omega) (.int .i64 3) (.int .i64 0) (.string ⟨#[]⟩) (.slice (some ⟨g9, 0, none⟩) 5 5)
  go_wp2_with fail
  refine NoPanic.normal ?_
  go_wp2_with fail
  change bodyPost _ _ _ _ _ (set4 w8 (W.heap.size + 1) (.int .i64 3) (.int .i64 0) (.string ⟨#[]⟩) (.slice (some ⟨g9, 0, none⟩) 5 5))
  generalize set4 w8 (W.heap.size + 1) (.int .i64 3) (.int .i64 0) (.string ⟨#[]⟩) (.slice (some ⟨g9, 0, none⟩) 5 5) = w7 at *
  obtain ⟨r0, r1, r2, r3⟩ := box_cells BN
  exact bodyPost_ret (v := listV (some ⟨g9, 0, none⟩) 5 5) (by simp [results, Tryz.results97, go_sem, listV, r0, r1, r2, r3]) rfl ⟨_, _, rfl, hbN, HN⟩

set_option maxRecDepth 100000 in
set_option maxHeartbeats 4000000 in
theorem ref_vtagged (s : ByteArray) (A : Option Addr) (n c : Nat) (l : List It) (W : World) (hA : Rd W W.heap.size 4 A n (l.flatMap It.cells)) (hok : ∀ x ∈ l, x.ok) (hn : n ≤ 1000) (hs : s.size ≤ 1000000) :
    Calls Tryz.prog 96 #[.string s, listV A n c] W (Ret (dig (taggedN (sb s) (encN l))) W) := by
  have hln : l.length = n := by have := hA.1; rw [flat_len It.cells_length] at this; omega
  obtain ⟨R0, hR0⟩ : ∃ R0, Hid (R0 = taggedN (sb s) (encN l)) := ⟨_, Lib.hid rfl⟩
  rw [← hR0.out]
  have hA2 := (((hA.alloc (Nat.le_refl _) (.cells #[.int .i64 3, .int .i64 0, .string ⟨#[]⟩, .slice A n c] 140)).more (B' := (W.alloc (.cells #[.int .i64 3, .int .i64 0, .string ⟨#[]⟩, .slice A n c] 140)).heap.size) (by simp)).alloc (Nat.le_refl _) (.cells (byts (zerosN 32)).toArray 54))
  have BX := (Blk.new W 140 #[.int .i64 3, .int .i64 0, .string ⟨#[]⟩, .slice A n c] _ rfl).alloc (.cells (byts (zerosN 32)).toArray 54)
  have BD := Blk.new (W.alloc (.cells #[.int .i64 3, .int .i64 0, .string ⟨#[]⟩, .slice A n c] 140)) 54 (byts (zerosN 32)).toArray (W.heap.size + 1) (by simp)
  have hb := bAl (bAl (bRefl W) (.cells #[.int .i64 3, .int .i64 0, .string ⟨#[]⟩, .slice A n c] 140)) (.cells (byts (zerosN 32)).toArray 54)
  have hel := encN_len hok (by omega)
  have hoE := okB_encN l
  unfold listV
  go_enter Tryz.func96, Tryz.ntmps96
  go_upto_region 1 with fail
  change Code.wp _ _ _ _ ((W.alloc (.cells #[.int .i64 3, .int .i64 0, .string ⟨#[]⟩, .slice A n c] 140)).alloc (.cells (byts (zerosN 32)).toArray 54))
  generalize (W.alloc (.cells #[.int .i64 3, .int .i64 0, .string ⟨#[]⟩, .slice A n c] 140)).alloc (.cells (byts (zerosN 32)).toArray 54) = w1 at *
  have q := ref_encode A n c l w1 (hA2.more (by have := BD.lt; simp; omega)) hok hn
  unfold listV at q
  obtain ⟨m0, m1, m2, m3⟩ := box_cells BX
  obtain ⟨E, hE⟩ : ∃ E, Hid (E = encN l) := ⟨_, Lib.hid rfl⟩
  rw [← hE.out] at q hel hoE hR0
  clear hln
  go_wp2_with fail
  (with_reducible refine q.mono ?_)
  rintro e w2 ⟨v, rfl, b2, A2, c2, rfl, hR, _, _, hnil⟩
  have hb2 := bCall hb b2
  have BD2 := BD.below b2 BD.lt
  have q2 := ref_tagged s A2 E.length c2 E w2 hR hnil hoE hs (Nat.le_trans hel (by decide))
  clear q hb b2 BD BX m0 m1 m2 m3
  go_wp2_with fail
  (with_reducible refine q2.mono ?_)
  rintro e w3 ⟨rfl, b3⟩
  have hb3 := bCall hb2 b3
  have BD3 := BD2.below b3 BD2.lt
  clear q2
  unfold dig
  have hTl := taggedN_len (sb s) E
  generalize taggedN (sb s) E = T at *
  have HT := Lib.hid hTl
  clear hTl
  dsimp only
  (refine ‹∀ (a : Act) (w : World), wpList _ _ _ _ a w → _› _ _ ?_)
  refine wpList_store_row rfl 54 (.tmp 4) (.tmp 14) rfl (W.heap.size + 1) (byts T).toArray rfl rfl 54 _ BD3 (by rw [List.size_toArray, byts_length, HT.out]; exact dig_info) (by rw [List.size_toArray, List.size_toArray, byts_length, byts_length, HT.out]; rfl) (byts_one _) ?_
  have hb9 := below_setRow hb3 (show W.heap.size ≤ W.heap.size + 1 by omega) (byts T).toArray
  have BD9 : Blk (w3.setRow (W.heap.size + 1) (byts T).toArray) (W.heap.size + 1) 54 (byts T).toArray := setRow_heap w3 (W.heap.size + 1) _ _ 54 _ BD3
  go_wp2_with fail
  exact bodyPost_ret (v := .agg (byts T).toArray) (results_cell_row rfl _ _ (W.heap.size + 1) 54 _ (0, 0) _ rfl BD9 dig_under rfl (by rw [List.size_toArray, byts_length, HT.out]; exact dig_info)) rfl ⟨by rw [hR0.out]; rfl, hb9⟩
theorem Opn.cl_length' {o : Opn} (h : o.ok) : o.cl.length = 36 := by
  obtain ⟨_, _, _, _, h, _⟩ := h
  simp [Opn.cl, byts_length, h]
theorem opn_info' : (Tryz.prog.info? 72).map (·.size) = some 36 := by kernel_rfl

set_option maxRecDepth 100000 in
set_option maxHeartbeats 4000000 in
theorem ref_commit0 (o : Opn) (W : World) (ho : o.ok) :
    Calls Tryz.prog 87 #[.int .i64 0, .agg o.cl.toArray] W (Ret (dig (taggedN (sb ⟨#[108, 101, 102, 116]⟩) (encN (o.its.map Nd.it)))) W) := by
  obtain ⟨R0, hR0⟩ : ∃ R0, Hid (R0 = taggedN (sb ⟨#[108, 101, 102, 116]⟩) (encN o.its2)) := ⟨_, Lib.hid rfl⟩
  rw [← o.its2_eq, ← hR0.out]
  have hits : ∀ x ∈ o.its2, x.ok := by
    obtain ⟨o1, o2, o3, o4, o5, o6⟩ := ho
    intro x hx
    simp only [Opn.its2, List.mem_cons, List.not_mem_nil, or_false] at hx
    rcases hx with rfl | rfl | rfl | rfl | rfl
    · exact o1
    · exact o2
    · exact o3
    · exact o4
    · exact Nd.it_ok (x := .dig o.salt) ⟨o5, o6⟩
  have hl5 : o.its2.length ≤ 1000 := by simp [Opn.its2]
  have BO := (Blk.new W 72 o.cl.toArray _ rfl).alloc (.cells (byts (zerosN 32)).toArray 54)
  have BD := Blk.new (W.alloc (.cells o.cl.toArray 72)) 54 (byts (zerosN 32)).toArray (W.heap.size + 1) (by simp)
  have hb := bAl (bAl (bRefl W) (.cells o.cl.toArray 72)) (.cells (byts (zerosN 32)).toArray 54)
  go_enter Tryz.func87, Tryz.ntmps87
  go_upto_region 1 with fail
  change Code.wp _ _ _ _ ((W.alloc (.cells o.cl.toArray 72)).alloc (.cells (byts (zerosN 32)).toArray 54))
  generalize (W.alloc (.cells o.cl.toArray 72)).alloc (.cells (byts (zerosN 32)).toArray 54) = w1 at *
  have LO : (Instr.loadAt 72 (.pointer (some ⟨W.heap.size, 0, none⟩))).run Tryz.prog w1 = .ok (.agg o.cl.toArray) w1 :=
    run_loadAt_mid _ W.heap.size 0 72 o.cl _ (fun j v hj => by rw [Nat.zero_add, BO.cell]; simpa using hj) Tryz.underlying72 rfl (by rw [Opn.cl_length' ho]; exact opn_info')
  have q := ref_value o w1 ho
  go_upto_region 2 with fail
  apply wp_region_lit
  refine wpList_loadG (by rfl) (by rfl) (by rfl) LO ?_
  simp only [Act.put, List.setIfInBounds_toArray, List.set_cons_zero, List.set_cons_succ]
  go_wp2_with fail
  (with_reducible refine q.mono ?_)
  rintro e w2 ⟨A2, c2, rfl, b2, hR⟩
  have hb2 := bCall hb b2
  have BD2 := BD.below b2 BD.lt
  have q2 := ref_vtagged ⟨#[108, 101, 102, 116]⟩ A2 o.its2.length c2 o.its2 w2 hR hits hl5 (by decide)
  rw [← hR0.out] at q2
  unfold listV at q2 ⊢
  have hTl : R0.length = 32 := by rw [hR0.out, taggedN_len]
  clear q hR0 LO hb b2 BD BO
  go_wp2_with fail
  (with_reducible refine q2.mono ?_)
  rintro e w3 ⟨rfl, b3⟩
  have hb3 := bCall hb2 b3
  have BD3 := BD2.below b3 BD2.lt
  have HT := Lib.hid hTl
  clear q2 hTl hb2 b3 BD2
  unfold dig
  dsimp only
  (refine ‹∀ (a : Act) (w : World), wpList _ _ _ _ a w → _› _ _ ?_)
  refine wpList_store_row rfl 54 (.tmp 4) (.tmp 9) rfl (W.heap.size + 1) (byts R0).toArray rfl rfl 54 _ BD3 (by rw [List.size_toArray, byts_length, HT.out]; exact dig_info) (by rw [List.size_toArray, List.size_toArray, byts_length, byts_length, HT.out]; rfl) (byts_one _) ?_
  have hb9 := below_setRow hb3 (show W.heap.size ≤ W.heap.size + 1 by omega) (byts R0).toArray
  have BD9 : Blk (w3.setRow (W.heap.size + 1) (byts R0).toArray) (W.heap.size + 1) 54 (byts R0).toArray := setRow_heap w3 (W.heap.size + 1) _ _ 54 _ BD3
  go_wp2_with fail
  exact bodyPost_ret (v := .agg (byts R0).toArray) (results_cell_row rfl _ _ (W.heap.size + 1) 54 _ (0, 0) _ rfl BD9 dig_under rfl (by rw [List.size_toArray, byts_length, HT.out]; exact dig_info)) rfl ⟨rfl, hb9⟩

set_option maxRecDepth 100000 in
set_option maxHeartbeats 4000000 in
theorem ref_commit1 (o : Opn) (W : World) (ho : o.ok) :
    Calls Tryz.prog 87 #[.int .i64 1, .agg o.cl.toArray] W (Ret (dig (taggedN (sb ⟨#[114, 105, 103, 104, 116]⟩) (encN (o.its.map Nd.it)))) W) := by
  obtain ⟨R0, hR0⟩ : ∃ R0, Hid (R0 = taggedN (sb ⟨#[114, 105, 103, 104, 116]⟩) (encN o.its2)) := ⟨_, Lib.hid rfl⟩
  rw [← o.its2_eq, ← hR0.out]
  have hits : ∀ x ∈ o.its2, x.ok := by
    obtain ⟨o1, o2, o3, o4, o5, o6⟩ := ho
    intro x hx
    simp only [Opn.its2, List.mem_cons, List.not_mem_nil, or_false] at hx
    rcases hx with rfl | rfl | rfl | rfl | rfl
    · exact o1
    · exact o2
    · exact o3
    · exact o4
    · exact Nd.it_ok (x := .dig o.salt) ⟨o5, o6⟩
  have hl5 : o.its2.length ≤ 1000 := by simp [Opn.its2]
  have BO := (Blk.new W 72 o.cl.toArray _ rfl).alloc (.cells (byts (zerosN 32)).toArray 54)
  have BD := Blk.new (W.alloc (.cells o.cl.toArray 72)) 54 (byts (zerosN 32)).toArray (W.heap.size + 1) (by simp)
  have hb := bAl (bAl (bRefl W) (.cells o.cl.toArray 72)) (.cells (byts (zerosN 32)).toArray 54)
  go_enter Tryz.func87, Tryz.ntmps87
  go_upto_region 1 with fail
  change Code.wp _ _ _ _ ((W.alloc (.cells o.cl.toArray 72)).alloc (.cells (byts (zerosN 32)).toArray 54))
  generalize (W.alloc (.cells o.cl.toArray 72)).alloc (.cells (byts (zerosN 32)).toArray 54) = w1 at *
  have LO : (Instr.loadAt 72 (.pointer (some ⟨W.heap.size, 0, none⟩))).run Tryz.prog w1 = .ok (.agg o.cl.toArray) w1 :=
    run_loadAt_mid _ W.heap.size 0 72 o.cl _ (fun j v hj => by rw [Nat.zero_add, BO.cell]; simpa using hj) Tryz.underlying72 rfl (by rw [Opn.cl_length' ho]; exact opn_info')
  have q := ref_value o w1 ho
  go_upto_region 3 with fail
  apply wp_region_lit
  refine wpList_loadG (by rfl) (by rfl) (by rfl) LO ?_
  simp only [Act.put, List.setIfInBounds_toArray, List.set_cons_zero, List.set_cons_succ]
  go_wp2_with fail
  (with_reducible refine q.mono ?_)
  rintro e w2 ⟨A2, c2, rfl, b2, hR⟩
  have hb2 := bCall hb b2
  have BD2 := BD.below b2 BD.lt
  have q2 := ref_vtagged ⟨#[114, 105, 103, 104, 116]⟩ A2 o.its2.length c2 o.its2 w2 hR hits hl5 (by decide)
  rw [← hR0.out] at q2
  unfold listV at q2 ⊢
  have hTl : R0.length = 32 := by rw [hR0.out, taggedN_len]
  clear q hR0 LO hb b2 BD BO
  go_wp2_with fail
  (with_reducible refine q2.mono ?_)
  rintro e w3 ⟨rfl, b3⟩
  have hb3 := bCall hb2 b3
  have BD3 := BD2.below b3 BD2.lt
  have HT := Lib.hid hTl
  clear q2 hTl hb2 b3 BD2
  unfold dig
  dsimp only
  (refine ‹∀ (a : Act) (w : World), wpList _ _ _ _ a w → _› _ _ ?_)
  refine wpList_store_row rfl 54 (.tmp 4) (.tmp 12) rfl (W.heap.size + 1) (byts R0).toArray rfl rfl 54 _ BD3 (by rw [List.size_toArray, byts_length, HT.out]; exact dig_info) (by rw [List.size_toArray, List.size_toArray, byts_length, byts_length, HT.out]; rfl) (byts_one _) ?_
  have hb9 := below_setRow hb3 (show W.heap.size ≤ W.heap.size + 1 by omega) (byts R0).toArray
  have BD9 : Blk (w3.setRow (W.heap.size + 1) (byts R0).toArray) (W.heap.size + 1) 54 (byts R0).toArray := setRow_heap w3 (W.heap.size + 1) _ _ 54 _ BD3
  go_wp2_with fail
  exact bodyPost_ret (v := .agg (byts R0).toArray) (results_cell_row rfl _ _ (W.heap.size + 1) 54 _ (0, 0) _ rfl BD9 dig_under rfl (by rw [List.size_toArray, byts_length, HT.out]; exact dig_info)) rfl ⟨rfl, hb9⟩
end Go.Proofs.YthgppaiiapkdjaaGreatDoor

/-
  The reference's group: exponent, Pow, Mul, Element.
-/
namespace Go.Proofs.YthgppaiiapkdjaaGreatDoor
open Go.RowKit

theorem tmod_to_emod (n : Int) : n % 1073741789 = if n.tmod 1073741789 < 0 then n.tmod 1073741789 + 1073741789 else n.tmod 1073741789 := by
  have h1 := tmod_q n
  have h2 := tmod_emod n
  generalize n.tmod 1073741789 = t at *
  split <;> omega
theorem ref_exponent (n : Int) (W : World) : Calls Tryz.prog 85 #[.int .i64 n] W (Same (.int .i64 (n % 1073741789)) W) := by
  have h0 := tmod_to_emod n
  have h1 := tmod_q n
  obtain ⟨v, hv⟩ : ∃ v, v = n % 1073741789 := ⟨_, rfl⟩
  rw [← hv] at h0 ⊢
  clear hv
  go_enter Tryz.func85, Tryz.ntmps85
  by_cases hn : n.tmod 1073741789 < 0
  · rw [if_pos hn] at h0
    have Hv := Lib.hid h0
    have hw : IntKind.i64.wrap (n.tmod 1073741789 + 1073741789) = n.tmod 1073741789 + 1073741789 := by rw [IntKind.wrap_i64]; omega
    clear h0 h1
    go_wp2_with fail
    go_ret
    exact ⟨by rw [Hv.out]; rfl, rfl⟩
  · rw [if_neg hn] at h0
    have Hv := Lib.hid h0
    clear h0 h1
    go_wp2_with fail
    go_ret
    exact ⟨by rw [Hv.out]; rfl, rfl⟩
theorem ref_pow (a n : Int) (W : World) : Calls Tryz.prog 72 #[.int .i64 a, .int .i64 n] W (Same (.tuple #[.int .i64 (powV a n), .int .i64 (powE a)]) W) := by
  have q := ref_valid a W
  have q2 := ref_exponent n W
  obtain ⟨v, hv⟩ : ∃ v, v = powV a n := ⟨_, rfl⟩
  obtain ⟨e, he⟩ : ∃ e, e = powE a := ⟨_, rfl⟩
  rw [← hv, ← he]
  cases hb : validB a
  · have hx : Hid (v = 0 ∧ e = 90) := Lib.hid ⟨by rw [hv]; unfold powV; rw [hb]; rfl, by rw [he]; unfold powE; rw [hb]; rfl⟩
    rw [hb] at q
    clear hv he hb
    go_enter Tryz.func72, Tryz.ntmps72
    go_wp2_with fail
    (with_reducible refine q.mono ?_)
    rintro r w' ⟨rfl, rfl⟩
    go_wp2_with fail
    go_ret2
    exact ⟨ret_ii hx.out.1.symm hx.out.2.symm, rfl⟩
  · have hr := validB_rng hb
    have hx : Hid (v = ((powP a.toNat (expN n) : Nat) : Int) ∧ e = 0) := Lib.hid ⟨by rw [hv]; unfold powV; rw [if_pos hb], by rw [he]; unfold powE; rw [if_pos hb]⟩
    have hn : ((expN n : Nat) : Int) = n % 1073741789 := by unfold expN; omega
    have q3 := ref_power a.toNat (expN n) W (by omega) (by have := expN_lt n; omega)
    rw [show ((a.toNat : Nat) : Int) = a by omega, hn] at q3
    rw [hb] at q
    generalize ((powP a.toNat (expN n) : Nat) : Int) = u at *
    generalize n % 1073741789 = m at *
    clear hv he hb hn hr
    go_enter Tryz.func72, Tryz.ntmps72
    go_wp2_with fail
    (with_reducible refine q.mono ?_)
    rintro r w' ⟨rfl, rfl⟩
    go_wp2_with fail
    (with_reducible refine q2.mono ?_)
    rintro r w' ⟨rfl, rfl⟩
    go_wp2_with fail
    (with_reducible refine q3.mono ?_)
    rintro r w' ⟨rfl, rfl⟩
    go_wp2_with fail
    go_ret2
    exact ⟨ret_ii hx.out.1.symm hx.out.2.symm, rfl⟩
theorem ref_mul (a b : Int) (W : World) : Calls Tryz.prog 83 #[.int .i64 a, .int .i64 b] W (Same (.tuple #[.int .i64 (mulV a b), .int .i64 (mulE a b)]) W) := by
  have q1 := ref_valid a W
  have q2 := ref_valid b W
  obtain ⟨v, hv⟩ : ∃ v, v = mulV a b := ⟨_, rfl⟩
  obtain ⟨e, he⟩ : ∃ e, e = mulE a b := ⟨_, rfl⟩
  rw [← hv, ← he]
  cases ha : validB a
  · have hx : Hid (v = 0 ∧ e = 90) := Lib.hid ⟨by rw [hv]; exact (mulV_no1 (by rw [ha]; simp)).1, by rw [he]; exact (mulV_no1 (by rw [ha]; simp)).2⟩
    rw [ha] at q1
    clear hv he ha
    go_enter Tryz.func83, Tryz.ntmps83
    go_wp2_with fail
    (with_reducible refine q1.mono ?_)
    rintro r w' ⟨rfl, rfl⟩
    go_wp2_with fail
    go_ret2
    exact ⟨ret_ii hx.out.1.symm hx.out.2.symm, rfl⟩
  cases hb : validB b
  · have hx : Hid (v = 0 ∧ e = 90) := Lib.hid ⟨by rw [hv]; exact (mulV_no2 (by rw [hb]; simp)).1, by rw [he]; exact (mulV_no2 (by rw [hb]; simp)).2⟩
    rw [ha] at q1
    rw [hb] at q2
    clear hv he ha hb
    go_enter Tryz.func83, Tryz.ntmps83
    go_wp2_with fail
    (with_reducible refine q1.mono ?_)
    rintro r w' ⟨rfl, rfl⟩
    go_wp2_with fail
    (with_reducible refine q2.mono ?_)
    rintro r w' ⟨rfl, rfl⟩
    go_wp2_with fail
    go_ret2
    exact ⟨ret_ii hx.out.1.symm hx.out.2.symm, rfl⟩
  · have r1 := validB_rng ha
    have r2 := validB_rng hb
    have hm := mul_rng (a := a) (b := b) (by omega) (by omega) (by omega) (by omega)
    have hx : Hid (v = a * b % 2147483579 ∧ e = 0) := Lib.hid ⟨by rw [hv]; exact (mulV_yes ha hb).1, by rw [he]; exact (mulV_yes ha hb).2⟩
    have hw : IntKind.i64.wrap (a * b) = a * b := by rw [IntKind.wrap_i64]; omega
    have ht : (a * b).tmod 2147483579 = a * b % 2147483579 := Int.tmod_eq_emod_of_nonneg hm.1
    have hw2 : IntKind.i64.wrap (a * b % 2147483579) = a * b % 2147483579 := by rw [IntKind.wrap_i64]; omega
    rw [ha] at q1
    rw [hb] at q2
    clear hv he ha hb r1 r2
    go_enter Tryz.func83, Tryz.ntmps83
    go_wp2_with fail
    (with_reducible refine q1.mono ?_)
    rintro r w' ⟨rfl, rfl⟩
    go_wp2_with fail
    (with_reducible refine q2.mono ?_)
    rintro r w' ⟨rfl, rfl⟩
    go_wp2_with fail
    go_ret2
    exact ⟨ret_ii hx.out.1.symm hx.out.2.symm, rfl⟩
theorem ref_element (n : Int) (W : World) : Calls Tryz.prog 46 #[.int .i64 n] W (Same (.tuple #[.int .i64 (elemV n), .int .i64 (elemE n)]) W) := by
  have q := ref_valid n W
  obtain ⟨v, hv⟩ : ∃ v, v = elemV n := ⟨_, rfl⟩
  obtain ⟨e, he⟩ : ∃ e, e = elemE n := ⟨_, rfl⟩
  rw [← hv, ← he]
  unfold elemV at hv
  unfold elemE at he
  by_cases h1 : n < 1
  · rw [if_neg (by omega)] at hv he
    have hx := Lib.hid (And.intro hv he)
    clear hv he
    go_enter Tryz.func46, Tryz.ntmps46
    go_wp2_with fail
    go_ret2
    exact ⟨ret_ii hx.out.1.symm hx.out.2.symm, rfl⟩
  by_cases h2 : (1073741789 : Int) < n
  · rw [if_neg (by omega)] at hv he
    have hx := Lib.hid (And.intro hv he)
    clear hv he
    go_enter Tryz.func46, Tryz.ntmps46
    go_wp2_with fail
    go_ret2
    exact ⟨ret_ii hx.out.1.symm hx.out.2.symm, rfl⟩
  rw [if_pos (by omega)] at hv he
  cases hb : validB n
  · rw [hb, if_neg (by simp)] at hv
    have hx := Lib.hid (And.intro hv he)
    have hw : IntKind.i64.wrap (2147483579 - n) = 2147483579 - n := by rw [IntKind.wrap_i64]; omega
    rw [hb] at q
    clear hv he hb
    go_enter Tryz.func46, Tryz.ntmps46
    go_wp2_with fail
    (with_reducible refine q.mono ?_)
    rintro r w' ⟨rfl, rfl⟩
    go_wp2_with fail
    go_ret2
    exact ⟨ret_ii hx.out.1.symm hx.out.2.symm, rfl⟩
  · rw [hb, if_pos rfl] at hv
    have hx := Lib.hid (And.intro hv he)
    rw [hb] at q
    clear hv he hb
    go_enter Tryz.func46, Tryz.ntmps46
    go_wp2_with fail
    (with_reducible refine q.mono ?_)
    rintro r w' ⟨rfl, rfl⟩
    go_wp2_with fail
    go_ret2
    exact ⟨ret_ii hx.out.1.symm hx.out.2.symm, rfl⟩
end Go.Proofs.YthgppaiiapkdjaaGreatDoor

/-
  The reference's elgamal: power, times, Formed, Seal, Again.
-/
namespace Go.Proofs.YthgppaiiapkdjaaGreatDoor
open Go.RowKit

theorem ref_pw (a n : Int) (W : World) : Calls Tryz.prog 47 #[.int .i64 a, .int .i64 n] W (Same (.int .i64 (powV a n)) W) := by
  have q := ref_pow a n W
  generalize powV a n = v at *
  generalize powE a = e at *
  go_enter Tryz.func47, Tryz.ntmps47
  go_wp2_with fail
  (with_reducible refine q.mono ?_)
  rintro r w' ⟨rfl, rfl⟩
  go_wp2_with fail
  go_ret
  exact ⟨rfl, rfl⟩
theorem ref_times (a b : Int) (W : World) (ha : inP a) (hb : inP b) : Calls Tryz.prog 48 #[.int .i64 a, .int .i64 b] W (Same (.int .i64 (a * b % 2147483579)) W) := by
  obtain ⟨a0, a1⟩ := ha
  obtain ⟨b0, b1⟩ := hb
  have hm := mul_rng (a := a) (b := b) a0 b0 a1 b1
  have hw : IntKind.i64.wrap (a * b) = a * b := by rw [IntKind.wrap_i64]; omega
  have ht : (a * b).tmod 2147483579 = a * b % 2147483579 := Int.tmod_eq_emod_of_nonneg hm.1
  have hw2 : IntKind.i64.wrap (a * b % 2147483579) = a * b % 2147483579 := by rw [IntKind.wrap_i64]; omega
  go_enter Tryz.func48, Tryz.ntmps48
  go_wp2_with fail
  go_ret
  exact ⟨rfl, rfl⟩
theorem mulP_inP (a b : Int) : inP (a * b % 2147483579) := by unfold inP; omega
/-- Are all letters in form? (the reference's) -/
theorem ref_formed (A : Option Addr) (n c : Nat) (l : List Ltr) (W : World) (hA : Rd W W.heap.size 6 A n (l.flatMap Ltr.cl)) (hn : n ≤ 9223372036854775807) :
    Calls Tryz.prog 44 #[.slice A n c] W (Ret (.bool (l.all Ltr.good)) W) := by
  obtain rfl : l.length = n := Ltrs_length hA
  obtain ⟨v, hv⟩ : ∃ v, v = l.all Ltr.good := ⟨_, rfl⟩
  rw [← hv]
  have Hv := Lib.hid hv
  clear hv
  go_enter Tryz.func44, Tryz.ntmps44
  go_wp2_with fail
  go_loopw [3] (fun i wr => ∃ k : Nat, k ≤ l.length ∧ i = .int .i64 k ∧ Below W.heap.size W wr ∧ Hid (∀ y ∈ l.take k, y.good = true)) (fun i _ => l.length - (intOf i).toNat)
  case atStart => exact ⟨0, Nat.zero_le _, rfl, bRefl W, Lib.hid (by simp)⟩
  case round =>
    obtain ⟨k, hkn, rfl, hb, hp⟩ := hrel
    by_cases hlt : k < l.length
    · obtain ⟨x, hx⟩ : ∃ x, Hid (l[k]? = some x) := ⟨_, Lib.hid (List.getElem?_eq_getElem hlt)⟩
      obtain ⟨b, off, hAb, hbb, o0, o1, o2, o3, o4, o5⟩ := Ltr_at (hA.below hb) hlt hx.out
      subst hAb
      have q := ref_check x wr
      have i0 : (0 : Int) ≤ (k : Int) := by omega
      have i1 : (k : Int) < (l.length : Int) := by omega
      by_cases hg : x.good = true
      · have he : x.err = 0 := if_pos hg
        rw [he] at q
        have hp' : Hid (∀ z ∈ l.take (k + 1), z.good = true) := by
          intro z hz
          obtain ⟨hk, rfl⟩ := List.getElem?_eq_some_iff.1 hx.out
          rw [List.take_succ_eq_append_getElem hk] at hz
          rcases List.mem_append.1 hz with hz | hz
          · exact hp.out z hz
          · obtain rfl : z = l[k] := by simpa using hz
            exact hg
        clear he hg
        go_wp2_with fail
        (with_reducible refine q.mono ?_)
        rintro e w' ⟨rfl, b'⟩
        go_wp2_with fail
        exact ⟨⟨k + 1, by omega, by go_num, bCall hb b', hp'⟩, by simp [intOf]; omega⟩
      · have he : x.err = 100 := if_neg hg
        rw [he] at q
        have hx0 : Hid (v = false) := by
          show _ = _
          rw [Hv.out]
          exact List.all_eq_false.2 ⟨x, List.mem_of_getElem? hx.out, hg⟩
        clear he hg
        go_wp2_with fail
        (with_reducible refine q.mono ?_)
        rintro e w' ⟨rfl, b'⟩
        go_wp2_with fail
        go_ret
        exact ⟨ret_bool hx0.out.symm, bCall hb b'⟩
    · have hx0 : Hid (v = true) := by
        show _ = _
        rw [Hv.out]
        exact List.all_eq_true.2 (by have := hp.out; rw [List.take_of_length_le (by omega)] at this; exact this)
      go_wp2_with fail
      go_ret
      exact ⟨ret_bool hx0.out.symm, hb⟩
def nAt (n0 n1 n2 : Int) (k : Fin 3) : Int := match k with | 0 => n0 | 1 => n1 | 2 => n2
/-- A letter's cells. -/
theorem Ltr.cells_six {w : World} {b : Nat} {t : TypeId} {y : Ltr} (h : Blk w b t y.cells) : Blk w b t #[.int .i64 y.a0, .int .i64 y.b0, .int .i64 y.a1, .int .i64 y.b1, .int .i64 y.a2, .int .i64 y.b2] := h
def setL (y : Ltr) (k : Fin 3) (a b : Int) : Ltr := match k with | 0 => ⟨a, b, y.a1, y.b1, y.a2, y.b2⟩ | 1 => ⟨y.a0, y.b0, a, b, y.a2, y.b2⟩ | 2 => ⟨y.a0, y.b0, y.a1, y.b1, a, b⟩
theorem setL_at (y : Ltr) (k j : Fin 3) (a b : Int) : (setL y k a b).aAt j = (if j = k then a else y.aAt j) ∧ (setL y k a b).bAt j = (if j = k then b else y.bAt j) := by
  match k, j with
  | 0, 0 => exact ⟨rfl, rfl⟩
  | 0, 1 => exact ⟨rfl, rfl⟩
  | 0, 2 => exact ⟨rfl, rfl⟩
  | 1, 0 => exact ⟨rfl, rfl⟩
  | 1, 1 => exact ⟨rfl, rfl⟩
  | 1, 2 => exact ⟨rfl, rfl⟩
  | 2, 0 => exact ⟨rfl, rfl⟩
  | 2, 1 => exact ⟨rfl, rfl⟩
  | 2, 2 => exact ⟨rfl, rfl⟩
theorem Blk.setL0 {w : World} {b : Nat} {t : TypeId} {y : Ltr} (h : Blk w b t y.cells) (u v : Int) : Blk ((w.setCell ⟨b, 0, none⟩ (.int .i64 u)).setCell ⟨b, 1, none⟩ (.int .i64 v)) b t (setL y 0 u v).cells := by have := (h.set_ 0 (.int .i64 u)).set_ 1 (.int .i64 v); simpa [Ltr.cells, setL] using this
theorem Blk.setL1 {w : World} {b : Nat} {t : TypeId} {y : Ltr} (h : Blk w b t y.cells) (u v : Int) : Blk ((w.setCell ⟨b, 2, none⟩ (.int .i64 u)).setCell ⟨b, 3, none⟩ (.int .i64 v)) b t (setL y 1 u v).cells := by have := (h.set_ 2 (.int .i64 u)).set_ 3 (.int .i64 v); simpa [Ltr.cells, setL] using this
theorem Blk.setL2 {w : World} {b : Nat} {t : TypeId} {y : Ltr} (h : Blk w b t y.cells) (u v : Int) : Blk ((w.setCell ⟨b, 4, none⟩ (.int .i64 u)).setCell ⟨b, 5, none⟩ (.int .i64 v)) b t (setL y 2 u v).cells := by have := (h.set_ 4 (.int .i64 u)).set_ 5 (.int .i64 v); simpa [Ltr.cells, setL] using this
theorem Ltr.ext3 {x y : Ltr} (h : ∀ j, x.aAt j = y.aAt j ∧ x.bAt j = y.bAt j) : x = y := by
  have h0 := h 0
  have h1 := h 1
  have h2 := h 2
  cases x; cases y
  simp only [Ltr.aAt, Ltr.bAt] at h0 h1 h2
  simp only [Ltr.mk.injEq]
  exact ⟨h0.1, h0.2, h1.1, h1.2, h2.1, h2.2⟩
theorem six_of {w : World} {b : Nat} {t : TypeId} {y : Ltr} (h : Blk w b t y.cells) :
    w.cell? ⟨b, 0, none⟩ = some (.int .i64 y.a0) ∧ w.cell? ⟨b, 1, none⟩ = some (.int .i64 y.b0) ∧ w.cell? ⟨b, 2, none⟩ = some (.int .i64 y.a1) ∧ w.cell? ⟨b, 3, none⟩ = some (.int .i64 y.b1) ∧ w.cell? ⟨b, 4, none⟩ = some (.int .i64 y.a2) ∧ w.cell? ⟨b, 5, none⟩ = some (.int .i64 y.b2) := (Ltr.cells_six h).six
end Go.Proofs.YthgppaiiapkdjaaGreatDoor
