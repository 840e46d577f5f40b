/- reports.Print; walked. -/
import Derived.Test.YtmbopkcmbiommaaGreatDoorRby
import Derived.Test.YtmbopkcmbiommaaGreatDoorRbk
import Derived.Test.YtmbopkcmbiommaaGreatDoorRad
import Derived.Handed
import Derived.Test.YtmbopkcmbiommaaGreatDoorRao
import Derived.Test.YtmbopkcmbiommaaGreatDoorRbo
import Derived.Test.YtmbopkcmbiommaaGreatDoorRbf
set_option maxRecDepth 1000000
set_option maxHeartbeats 16000000
namespace Go.Proofs.YtmbopkcmbiommaaGreatDoor
open Go Go.RowKit
theorem post_len {x : Wld} (h : postE x = 0) : x.base.length = x.leg.length := by
  unfold postE at h
  split at h
  · split at h
    · rename_i h2
      unfold tariffE at h2
      split at h2
      · rename_i h3
        rw [Bool.and_eq_true] at h3
        exact of_decide_eq_true h3.1
      · cases h2
    · rename_i h2; exact absurd h h2
  · rename_i h1; exact absurd h h1
theorem text_ne (x : Wld) : x.text ≠ [] := by
  unfold Wld.text headT wWorld
  simp
theorem LibG.more {B B' : Nat} {w : World} (h : LibG B w) (hB : B ≤ B') : LibG B' w := ⟨h.pow, h.syn, h.rng, h.mx, Nat.lt_of_lt_of_le h.b1 hB, Nat.lt_of_lt_of_le h.b2 hB, Nat.lt_of_lt_of_le h.b3 hB, Nat.lt_of_lt_of_le h.b4 hB⟩
theorem pr_fresh (w : World) : PAt (w.alloc (.cells #[.pointer none, .slice none 0 0] 77)) w.heap.size [] := Lib.IsBuilderF.of (Lib.fresh_isBuilder _ _ w)
theorem rep_print (s : WS) (x : Wld) (W : World) (hx : WldAt W W.heap.size s x) (hs : x.small) (hby : ∀ d ∈ x.seed, d < 256) (hm : x.room ≤ 1000000000) (hG : LibG W.heap.size W) :
    Calls Tryz.prog 10 #[.agg (s.cl x).toArray] W (Ret (.tuple #[.string ⟨(printV x).1.toArray⟩, .int .i64 (printV x).2]) W) := by
  have hYs : (s.cl x).toArray.size = 43 := wsCl_size hs.seed
  have BY := Blk.new W 35 (s.cl x).toArray _ rfl
  have hb := bAl (bRefl W) (.cells (s.cl x).toArray 35)
  have LL : Hid (∀ w', Blk w' W.heap.size 35 (s.cl x).toArray → (Instr.loadAt 35 (.pointer (some ⟨W.heap.size, 0, none⟩))).run Tryz.prog w' = .ok (.agg (s.cl x).toArray) w') := Lib.hid (fun w' B => load_blk B Tryz.underlying35 rfl (by rw [hYs]; exact world_info))
  have q1 : Hid (∀ w', Below W.heap.size W w' → Calls Tryz.prog 15 #[.agg (s.cl x).toArray] w' (Ret (.int .i64 (postE x)) w')) := Lib.hid (fun w' b => post_check s x w' ((hx.below b).more b.size) hs)
  have q2 : Hid (∀ w', Below W.heap.size W w' → postE x = 0 → Calls Tryz.prog 19 #[.pointer (some ⟨w'.heap.size, 0, none⟩), .agg (s.cl x).toArray] (w'.alloc (.cells #[.pointer none, .slice none 0 0] 77)) (WPost x w'.heap.size (w'.alloc (.cells #[.pointer none, .slice none 0 0] 77)))) := Lib.hid (fun w' b h => by
    have b2 := bAl b (.cells #[.pointer none, .slice none 0 0] 77)
    exact pr_world w'.heap.size s x _ (pr_fresh w') ((hx.below b2).more b.size) hs hby (post_len h) hm ((hG.below b2).more b.size))
  have hres : Hid (printV x = if postE x = 0 then (if x.okW = true then (x.text, 0) else ([], 590)) else ([], postE x)) := Lib.hid rfl
  rw [hres.out]
  generalize (s.cl x).toArray = Y at *
  clear hx hYs
  obtain ⟨E, hE⟩ : ∃ E, Hid (postE x = E) := ⟨_, Lib.hid rfl⟩
  rw [hE.out] at q1 ⊢
  by_cases h0 : E = 0
  · have q3 := Lib.hid (fun w' (b : Below W.heap.size W w') => q2.out w' b (hE.out.trans h0))
    subst h0
    clear q2
    rw [if_pos rfl]
    obtain ⟨rt, hrt⟩ : ∃ rt : By × Int, Hid ((if x.okW = true then (x.text, 0) else ([], 590)) = rt) := ⟨_, Lib.hid rfl⟩
    rw [hrt.out]
    go_enter Tryz.func10, Tryz.ntmps10
    go_upto_region 1 with fail
    generalize W.alloc (.cells Y 35) = w1 at *
    apply wp_region_lit
    refine wpList_loadG (by rfl) (by rfl) (by rfl) (LL.out _ BY) ?_
    simp only [Act.put]
    go_upto_region 5 with (go_at_call 15; (with_reducible refine (q1.out _ hb).mono ?_); rintro e w2 ⟨rfl, b2⟩)
    have b2w := bCall hb b2
    have b3 := bAl b2w (.cells #[.pointer none, .slice none 0 0] 77)
    have BY2 := (BY.below b2 BY.lt).alloc (.cells #[.pointer none, .slice none 0 0] 77)
    have q4 := q3.out w2 b2w
    have hlt2 : W.heap.size ≤ w2.heap.size := b2w.size
    have hb2lt : w2.heap.size < (w2.alloc (.cells #[.pointer none, .slice none 0 0] 77)).heap.size := by simp
    apply wp_region_lit
    refine wpList_loadG (by rfl) (by rfl) (by rfl) (LL.out _ BY2) ?_
    simp only [Act.put]
    generalize hb9 : w2.heap.size = b at *
    generalize w2.alloc (.cells #[.pointer none, .slice none 0 0] 77) = w3 at *
    clear q3 q1 BY BY2 LL
    unfold WPost at q4
    cases hok : x.okW with
    | false =>
      have hr2 : rt = ([], 590) := by rw [← hrt.out, hok]; rfl
      subst hr2
      rw [hok] at q4
      replace hok := Lib.hid hok
      go_wp2_with (go_at_call 19; (with_reducible refine q4.mono ?_); rintro e w5 ⟨h9, b5⟩; (replace h9 : e = .returned (.bool false) := h9); subst h9)
      go_ret2
      exact ⟨rfl, b3.trans (b5.mono hlt2)⟩
    | true =>
      have hr2 : rt = (x.text, 0) := by rw [← hrt.out, hok]; rfl
      subst hr2
      rw [hok] at q4
      replace hok := Lib.hid hok
      go_upto_region 7 with (go_at_call 19; (with_reducible refine q4.mono ?_); rintro e w5 ⟨⟨h9, hp5⟩, b5⟩; subst h9)
      have q5 := pr_string b x.text w5 hp5 (text_ne x)
      go_wp2_with (go_at_call 20; (with_reducible refine q5.mono ?_); rintro e w6 ⟨rfl, b6⟩)
      go_ret2
      exact ⟨rfl, (b3.trans (b5.mono hlt2)).trans (b6.mono hlt2)⟩
  · have h0h := Lib.hid h0
    rw [if_neg h0]
    clear q2
    have hne : (E != 0) = true := by simpa using h0
    go_enter Tryz.func10, Tryz.ntmps10
    go_upto_region 1 with fail
    generalize W.alloc (.cells Y 35) = w1 at *
    apply wp_region_lit
    refine wpList_loadG (by rfl) (by rfl) (by rfl) (LL.out _ BY) ?_
    simp only [Act.put]
    go_wp2_with (go_at_call 15; (with_reducible refine (q1.out _ hb).mono ?_); rintro e w2 ⟨rfl, b2⟩)
    go_ret2
    exact ⟨rfl, bCall hb b2⟩
theorem rows_le : ∀ l : List Rw, l.length ≤ (l.flatMap rowT).length
  | [] => Nat.zero_le _
  | r :: l => by
    have := rows_le l
    rw [List.flatMap_cons, List.length_append, List.length_cons]
    have h2 : 1 ≤ (rowT r).length := by unfold rowT; rw [List.length_append, List.length_cons, List.length_nil]; omega
    omega
theorem lin_mem_len {y : Lin} : ∀ {l : List Lin}, y ∈ l → (linR y).length ≤ (l.flatMap linR).length
  | z :: l, h => by
    rw [List.flatMap_cons, List.length_append]
    rcases List.mem_cons.1 h with rfl | h
    · omega
    · have := lin_mem_len h
      omega
theorem lins_len_le : ∀ l : List Lin, l.length ≤ (l.flatMap linR).length
  | [] => Nat.zero_le _
  | z :: l => by
    have := lins_len_le l
    rw [List.flatMap_cons, List.length_append, List.length_cons]
    have h2 : 1 ≤ (linR z).length := by unfold linR; rw [List.length_cons]; omega
    omega
theorem read_small {src : By} {x : Wld} {n : Nat} (h : readV src = (x, n, 0)) (hs : src.length ≤ 1000000) : x.small := by
  obtain ⟨_, h2, h3, h4, h5⟩ := print_read h
  obtain ⟨ht, _, ho⟩ := print_text h2
  have hb := post_len h3
  have hl := rows_le x.rows
  have htl : x.text.length = (headT x).length + (x.rows.flatMap rowT).length := by unfold Wld.text; rw [List.length_append]
  rw [← ht] at htl
  have hr : x.rows.length = x.base.length + (x.tiers.length + ((x.lines.flatMap linR).length + (x.orders.length + (x.ents.length + (x.secs.length + x.faults.length))))) := by
    unfold Wld.rows
    simp only [List.length_append, List.length_map, List.length_zip]
    omega
  have hll := lins_len_le x.lines
  refine small_read ht.symm ho hs h5 (by omega) (fun y hy => ?_) (by omega) (by omega) (by omega) (by omega) (by omega) (by omega) (by omega)
  have := lin_mem_len hy
  have e : (linR y).length = y.rules.length + y.off.length + 1 := by unfold linR; rw [List.length_cons, List.length_append, List.length_map, List.length_map]
  omega
theorem small_zero : zeroW.small := ⟨by decide, fun y hy => (by cases hy), by decide, by decide, by decide, by decide, fun y hy => (by cases hy), by decide, fun y hy => (by cases hy), by decide, rfl, by decide⟩
theorem built_zero : Tryz.prog.built 35 [] = some (nilWS.cl zeroW).toArray := by kernel_rfl
theorem wsCl_one {s : WS} {x : Wld} : ∀ v ∈ (s.cl x).toArray.toList, v.oneCell' = true := by
  intro v hv
  replace hv : v ∈ s.cl x := by simpa using hv
  unfold WS.cl at hv
  rcases List.mem_append.1 hv with hv | hv
  · simp only [List.mem_cons, List.not_mem_nil, or_false] at hv
    rcases hv with rfl | rfl | rfl | rfl | rfl | rfl | rfl | rfl | rfl | rfl <;> rfl
  · rcases List.mem_append.1 hv with hv | hv
    · exact byts_oneCell v hv
    · obtain rfl := List.mem_singleton.1 hv
      rfl
theorem whole_ld {s : WS} {x : Wld} (h : x.seed.length = 32) {w : World} {g : Nat} (B : Blk w g 35 (s.cl x).toArray) : (Instr.loadAt 35 (.pointer (some ⟨g, 0, none⟩))).run Tryz.prog w = .ok (.agg (s.cl x).toArray) w :=
  load_blk B Tryz.underlying35 rfl (by rw [wsCl_size h]; exact world_info)
theorem law_fails (src : ByteArray) (n : Nat) (e : Int) (W : World) (hs : src.size ≤ 1000000) (hG : LibG W.heap.size W) (hv : readV src.data.toList = (zeroW, n, e)) :
    Calls Tryz.prog 17 #[.string src, .int .i64 (n : Nat), .int .i64 e] W (Ret (.bool true) W) := by
  have q1 := rep_read src W hs hG
  rw [hv] at q1
  go_enter Tryz.func17, Tryz.ntmps17
  go_wp2_with fail
  (with_reducible refine q1.mono ?_)
  rintro e1 w2 ⟨s, rfl, hW, hb, -⟩
  dsimp only at hW ⊢
  have hsz : (s.cl zeroW).toArray.size = 43 := wsCl_size rfl
  have h1c := wsCl_one (s := s) (x := zeroW)
  have LL : Hid (∀ w' g, Blk w' g 35 (s.cl zeroW).toArray → (Instr.loadAt 35 (.pointer (some ⟨g, 0, none⟩))).run Tryz.prog w' = .ok (.agg (s.cl zeroW).toArray) w') := Lib.hid (fun w' g B => whole_ld rfl B)
  have hb2 := bAl hb (.cells (s.cl zeroW).toArray 35)
  have hW2 := hW.below (bAl (bRefl w2) (.cells (s.cl zeroW).toArray 35))
  have q2 := ref_same zeroW s nilWS (w2.alloc (.cells (s.cl zeroW).toArray 35)) (hW2.more (by simp)) (wld_zero _ _) small_zero
  have BW := Blk.new w2 35 (s.cl zeroW).toArray _ rfl
  generalize (s.cl zeroW).toArray = Y at *
  clear q1 hW hW2
  iterate 16 go_step
  refine wpList_storeG (by rfl) (by rfl) (by rfl) (by rfl) (store_newW (by rw [hsz]; exact world_info) (by rw [hsz]; rfl) h1c) ?_
  simp only [Act.put]
  have hlt := BW.lt
  generalize hg : w2.heap.size = g at *
  generalize w2.alloc (.cells Y 35) = w3 at *
  go_upto_region 2 with fail
  apply wp_region_lit
  iterate 24 go_step
  refine wpList_loadG (by rfl) (by rfl) (by rfl) (LL.out _ _ BW) ?_
  simp only [Act.put]
  refine wpList_buildG (by rfl) (by rfl) (by rfl) built_zero ?_
  simp only [Act.put]
  generalize (nilWS.cl zeroW).toArray = Z at *
  go_wp2_with (go_at_call 14; (with_reducible refine q2.mono ?_); rintro e5 w5 ⟨rfl, b5⟩)
  go_ret
  exact ⟨rfl, bCall hb2 b5⟩
theorem law_failsI (src : ByteArray) (i e : Int) (n : Nat) (W0 W : World) (hi : i = (n : Nat)) (hs : src.size ≤ 1000000) (hG : LibG W0.heap.size W0) (b : Below W0.heap.size W0 W) (hv : readV src.data.toList = (zeroW, n, e)) :
    Calls Tryz.prog 17 #[.string src, .int .i64 i, .int .i64 e] W (fun r w' => r = .returned (.bool true) ∧ Below W0.heap.size W0 w') := by
  subst hi
  refine (law_fails src n e W hs ((hG.below b).more b.size) hv).mono ?_
  rintro r w' ⟨h1, h2⟩
  exact ⟨h1, bCall b h2⟩
def sOne (g : Nat) : WS := ⟨none, some ⟨g, 0, none⟩, some ⟨g + 1, 0, none⟩, none, none, none, none, none, 0, 1, 1, 0, 0, 0, 0, 0⟩
theorem built_one (g : Nat) : Tryz.prog.built 35 [(1, .agg #[.slice (some ⟨g, 0, none⟩) 1 1, .slice (some ⟨g + 1, 0, none⟩) 1 1, .slice none 0 0])] = some ((sOne g).cl oneW).toArray := by kernel_rfl
theorem rd_blk {w : World} {g sz n : Nat} {t : TypeId} {cs : List Value} (B : Blk w g t cs.toArray) (hl : cs.length = n * sz) : Rd w w.heap.size sz (some ⟨g, 0, none⟩) n cs :=
  ⟨hl, fun _ => ⟨g, 0, rfl, B.lt, fun j u hu => by rw [Nat.zero_add, B.cell, List.getElem?_toArray]; exact hu⟩⟩
theorem wld_one {w : World} {g : Nat} (B0 : Blk w g 3 #[.int .i64 10]) (B1 : Blk w (g + 1) 3 #[.int .i64 3]) : WldAt w w.heap.size (sOne g) oneW :=
  ⟨⟨[], rfl, Rd.nil_, fun k y h => by cases h⟩, rd_blk (cs := [.int .i64 10]) B0 rfl, rd_blk (cs := [.int .i64 3]) B1 rfl, Rd.nil_, ⟨[], rfl, Rd.nil_, fun k y h => by cases h⟩, Rd.nil_, Rd.nil_, Rd.nil_⟩
def all0 : Wld := { allW with seed := zero32 }
def lAll (n : Nat) : LS := ⟨some ⟨n, 0, none⟩, some ⟨n + 1, 0, none⟩, some ⟨n + 1 + 1, 0, none⟩, some ⟨n + 1 + 1 + 1, 0, none⟩, 2, 1, 1, 1⟩
def sAll (n : Nat) : WS := ⟨some ⟨n + 1 + 1 + 1 + 1, 0, none⟩, some ⟨n + 1 + 1 + 1 + 1 + 1, 0, none⟩, some ⟨n + 1 + 1 + 1 + 1 + 1 + 1, 0, none⟩, some ⟨n + 1 + 1 + 1 + 1 + 1 + 1 + 1, 0, none⟩, some ⟨n + 1 + 1 + 1 + 1 + 1 + 1 + 1 + 1 + 1, 0, none⟩, some ⟨n + 1 + 1 + 1 + 1 + 1 + 1 + 1 + 1 + 1 + 1, 0, none⟩, some ⟨n + 1 + 1 + 1 + 1 + 1 + 1 + 1 + 1 + 1 + 1 + 1, 0, none⟩, some ⟨n + 1 + 1 + 1 + 1 + 1 + 1 + 1 + 1 + 1 + 1 + 1 + 1, 0, none⟩, 1, 1, 1, 1, 1, 1, 2, 1⟩
theorem built_all (n : Nat) : Tryz.prog.built 35 [(0, .agg #[.int .i64 2, .slice (some ⟨n + 1 + 1 + 1 + 1, 0, none⟩) 1 1]), (1, .agg #[.slice (some ⟨n + 1 + 1 + 1 + 1 + 1, 0, none⟩) 1 1, .slice (some ⟨n + 1 + 1 + 1 + 1 + 1 + 1, 0, none⟩) 1 1, .slice (some ⟨n + 1 + 1 + 1 + 1 + 1 + 1 + 1, 0, none⟩) 1 1]), (2, .slice (some ⟨n + 1 + 1 + 1 + 1 + 1 + 1 + 1 + 1 + 1, 0, none⟩) 1 1), (3, .int .i64 3), (4, .slice (some ⟨n + 1 + 1 + 1 + 1 + 1 + 1 + 1 + 1 + 1 + 1, 0, none⟩) 1 1), (5, .int .i64 (-4)), (6, .slice (some ⟨n + 1 + 1 + 1 + 1 + 1 + 1 + 1 + 1 + 1 + 1 + 1, 0, none⟩) 2 2), (8, .slice (some ⟨n + 1 + 1 + 1 + 1 + 1 + 1 + 1 + 1 + 1 + 1 + 1 + 1, 0, none⟩) 1 1)] = some ((sAll n).cl all0).toArray := by kernel_rfl
theorem wld_all {w : World} {n : Nat} (C0 : Blk w (n) 3 #[.int .i64 1, .int .i64 0]) (C1 : Blk w (n + 1) 3 #[.int .i64 7]) (C2 : Blk w (n + 1 + 1) 59 #[.int .i64 5, .int .i64 9, .int .i64 2]) (C3 : Blk w (n + 1 + 1 + 1) 61 #[.int .i64 6, .int .i64 7]) (C4 : Blk w (n + 1 + 1 + 1 + 1) 56 #[.slice (some ⟨n, 0, none⟩) 2 2, .slice (some ⟨n + 1, 0, none⟩) 1 1, .int .i64 1, .int .i64 4, .slice (some ⟨n + 1 + 1, 0, none⟩) 1 1, .slice (some ⟨n + 1 + 1 + 1, 0, none⟩) 1 1]) (C5 : Blk w (n + 1 + 1 + 1 + 1 + 1) 3 #[.int .i64 10]) (C6 : Blk w (n + 1 + 1 + 1 + 1 + 1 + 1) 3 #[.int .i64 3]) (C7 : Blk w (n + 1 + 1 + 1 + 1 + 1 + 1 + 1) 63 #[.int .i64 2, .int .i64 8]) (C8 : Blk w (n + 1 + 1 + 1 + 1 + 1 + 1 + 1 + 1) 3 #[.int .i64 0]) (C9 : Blk w (n + 1 + 1 + 1 + 1 + 1 + 1 + 1 + 1 + 1) 65 #[.int .i64 1, .int .i64 2, .int .i64 0, .int .i64 0, .int .i64 3, .int .i64 40, .int .i64 2, .int .i64 50, .slice (some ⟨n + 1 + 1 + 1 + 1 + 1 + 1 + 1 + 1, 0, none⟩) 1 1, .bool true, .int .i64 1]) (C10 : Blk w (n + 1 + 1 + 1 + 1 + 1 + 1 + 1 + 1 + 1 + 1) 67 #[.int .i64 6, .int .i64 1, .int .i64 2, .int .i64 1, .int .i64 0, .int .i64 8, .int .i64 1, .int .i64 9]) (C11 : Blk w (n + 1 + 1 + 1 + 1 + 1 + 1 + 1 + 1 + 1 + 1 + 1) 3 #[.int .i64 70, .int .i64 80]) (C12 : Blk w (n + 1 + 1 + 1 + 1 + 1 + 1 + 1 + 1 + 1 + 1 + 1 + 1) 71 #[.int .i64 1, .int .i64 0, .int .i64 1, .int .i64 2]) : WldAt w w.heap.size (sAll n) allW :=
  ⟨⟨[lAll n], rfl, rd_blk (cs := [.slice (some ⟨n, 0, none⟩) 2 2, .slice (some ⟨n + 1, 0, none⟩) 1 1, .int .i64 1, .int .i64 4, .slice (some ⟨n + 1 + 1, 0, none⟩) 1 1, .slice (some ⟨n + 1 + 1 + 1, 0, none⟩) 1 1]) C4 rfl, fun k y h => by
    match k, h with
    | 0, h => injection h with h; subst h; exact ⟨_, rfl, rd_blk (cs := [.int .i64 1, .int .i64 0]) C0 rfl, rd_blk (cs := [.int .i64 7]) C1 rfl, rd_blk (cs := [.int .i64 5, .int .i64 9, .int .i64 2]) C2 rfl, rd_blk (cs := [.int .i64 6, .int .i64 7]) C3 rfl⟩
    | k + 1, h => simp [allW] at h⟩, rd_blk (cs := [.int .i64 10]) C5 rfl, rd_blk (cs := [.int .i64 3]) C6 rfl, rd_blk (cs := [.int .i64 2, .int .i64 8]) C7 rfl, ⟨[.slice (some ⟨n + 1 + 1 + 1 + 1 + 1 + 1 + 1 + 1, 0, none⟩) 1 1], rfl, rd_blk (cs := [.int .i64 1, .int .i64 2, .int .i64 0, .int .i64 0, .int .i64 3, .int .i64 40, .int .i64 2, .int .i64 50, .slice (some ⟨n + 1 + 1 + 1 + 1 + 1 + 1 + 1 + 1, 0, none⟩) 1 1, .bool true, .int .i64 1]) C9 rfl, fun k y h => by
    match k, h with
    | 0, h => injection h with h; subst h; exact ⟨_, _, rfl, rd_blk (cs := [.int .i64 0]) C8 rfl⟩
    | k + 1, h => simp [allW] at h⟩, rd_blk (cs := [.int .i64 6, .int .i64 1, .int .i64 2, .int .i64 1, .int .i64 0, .int .i64 8, .int .i64 1, .int .i64 9]) C10 rfl, rd_blk (cs := [.int .i64 70, .int .i64 80]) C11 rfl, rd_blk (cs := [.int .i64 1, .int .i64 0, .int .i64 1, .int .i64 2]) C12 rfl⟩
theorem small_all : allW.small := read_small ex_allR (Nat.le_of_ble_eq_true rfl)
theorem below_setRowR {B g : Nat} {w w' : World} (h : Below B w w') (hg : B ≤ g) (X : Array Value) : Below B w (w'.setRow g X) :=
  ⟨h.os, h.tape, h.output, by have := h.size; simpa [World.setRow] using this, fun k hk => (setRow_other w' g k X (by omega)).trans (h.block k hk)⟩
theorem small_one : oneW.small := ⟨by decide, fun y hy => (by cases hy), by decide, by decide, by decide, by decide, fun y hy => (by cases hy), by decide, fun y hy => (by cases hy), by decide, rfl, by decide⟩
theorem read_is (src : ByteArray) (v : Wld × Nat × Int) (W : World) (hv : readV src.data.toList = v) (hs : src.size ≤ 1000000) (hG : LibG W.heap.size W) : Calls Tryz.prog 12 #[.string src] W (ReadPost v W) := by
  subst hv
  exact rep_read src W hs hG
theorem law_sane (W : World) (hG : LibG W.heap.size W) : Calls Tryz.prog 8 #[] W (Ret (.bool true) W) := by
  go_enter Tryz.func8, Tryz.ntmps8
  go_upto_region 1 with fail
  go_wp2_with fail
  refine (law_failsI _ _ _ 1 W _ (by rfl) (Nat.le_of_ble_eq_true rfl) hG (bRefl W) ex_none).mono ?_
  rintro e w1 ⟨rfl, b1⟩
  dsimp only
  go_wp2_with fail
  refine (law_failsI _ _ _ 0 W _ (by rfl) (Nat.le_of_ble_eq_true rfl) hG b1 ex_begin).mono ?_
  rintro e w2 ⟨rfl, b2⟩
  dsimp only
  go_wp2_with fail
  refine (law_failsI _ _ _ 1 W _ (by rfl) (Nat.le_of_ble_eq_true rfl) hG b2 ex_zero).mono ?_
  rintro e w3 ⟨rfl, b3⟩
  dsimp only
  go_wp2_with fail
  refine (law_failsI _ _ _ 2 W _ (by rfl) (Nat.le_of_ble_eq_true rfl) hG b3 ex_cls).mono ?_
  rintro e w4 ⟨rfl, b4⟩
  dsimp only
  go_wp2_with fail
  refine (law_failsI _ _ _ 2 W _ (by rfl) (Nat.le_of_ble_eq_true rfl) hG b4 ex_rule).mono ?_
  rintro e w5 ⟨rfl, b5⟩
  dsimp only
  go_wp2_with fail
  refine (law_failsI _ _ _ 1 W _ (by rfl) (Nat.le_of_ble_eq_true rfl) hG b5 ex_cut).mono ?_
  rintro e w6 ⟨rfl, b6⟩
  dsimp only
  go_upto_region 3 with fail
  apply wp_region_lit
  iterate 9 go_step
  refine wpList_buildG (by rfl) (by rfl) (by rfl) (built_one w6.heap.size) ?_
  simp only [Act.put]
  iterate 3 go_step
  have he9 : ((w6.alloc (.cells #[.int .i64 10] 3)).alloc (.cells #[.int .i64 3] 3)).heap.size = w6.heap.size + 1 + 1 := by simp
  rw [← he9]
  refine wpList_storeG (by rfl) (by rfl) (by rfl) (by rfl) (store_newW (by rw [wsCl_size rfl]; exact world_info) (by rw [wsCl_size rfl]; rfl) wsCl_one) ?_
  simp only [Act.put]
  rw [he9]
  clear he9
  have bw := bAl (bAl (bAl b6 (.cells #[.int .i64 10] 3)) (.cells #[.int .i64 3] 3)) (.cells ((sOne w6.heap.size).cl oneW).toArray 35)
  have BA := ((Blk.new w6 3 #[.int .i64 10] _ rfl).alloc (.cells #[.int .i64 3] 3)).alloc (.cells ((sOne w6.heap.size).cl oneW).toArray 35)
  have BB := (Blk.new (w6.alloc (.cells #[.int .i64 10] 3)) 3 #[.int .i64 3] (w6.heap.size + 1) (by simp)).alloc (.cells ((sOne w6.heap.size).cl oneW).toArray 35)
  have BX := Blk.new ((w6.alloc (.cells #[.int .i64 10] 3)).alloc (.cells #[.int .i64 3] 3)) 35 ((sOne w6.heap.size).cl oneW).toArray (w6.heap.size + 1 + 1) (by simp)
  have hg6 : ((w6.alloc (.cells #[.int .i64 10] 3)).alloc (.cells #[.int .i64 3] 3)).heap.size = w6.heap.size + 1 + 1 := by simp
  generalize hw7 : ((w6.alloc (.cells #[.int .i64 10] 3)).alloc (.cells #[.int .i64 3] 3)).alloc (.cells ((sOne w6.heap.size).cl oneW).toArray 35) = w7 at *
  generalize hg : w6.heap.size = g at *
  have hW1 := wld_one BA BB
  clear hw7
  go_upto_region 4 with fail
  have q1 : Hid (∀ w, Below w7.heap.size w7 w → Calls Tryz.prog 10 #[.agg ((sOne g).cl oneW).toArray] w (Ret (.tuple #[.string ⟨#[119, 111, 114, 108, 100, 32, 48, 32, 48, 32, 48, 32, 48, 48, 48, 48, 48, 48, 48, 48, 48, 48, 48, 48, 48, 48, 48, 48, 48, 48, 48, 48, 48, 48, 48, 48, 48, 48, 48, 48, 48, 48, 48, 48, 48, 48, 48, 48, 48, 48, 48, 48, 48, 48, 48, 48, 48, 48, 48, 48, 48, 48, 48, 48, 48, 48, 48, 48, 48, 48, 48, 48, 48, 48, 48, 48, 10, 99, 108, 97, 115, 115, 32, 49, 48, 32, 51, 10]⟩, .int .i64 0]) w)) := Lib.hid (fun w b => by
    have := rep_print (sOne g) oneW w ((hW1.below b).more b.size) small_one (by decide) (Nat.le_of_ble_eq_true rfl) (((hG.below bw).below (b.mono bw.size)).more (Nat.le_trans bw.size b.size))
    rw [ex_one] at this
    exact this)
  have LL : Hid (∀ w', Blk w' (g + 1 + 1) 35 ((sOne g).cl oneW).toArray → (Instr.loadAt 35 (.pointer (some ⟨g + 1 + 1, 0, none⟩))).run Tryz.prog w' = .ok (.agg ((sOne g).cl oneW).toArray) w') := Lib.hid (fun w' B => whole_ld rfl B)
  have qS : Hid (∀ s w, WldAt w w.heap.size s oneW → Below w7.heap.size w7 w → Calls Tryz.prog 14 #[.agg (s.cl oneW).toArray, .agg ((sOne g).cl oneW).toArray] w (Ret (.bool true) w)) := Lib.hid (fun s w h b => ref_same oneW s (sOne g) w h ((hW1.below b).more b.size) small_one)
  generalize ((sOne g).cl oneW).toArray = Y at *
  apply wp_region_lit
  refine wpList_loadG (by rfl) (by rfl) (by rfl) (LL.out _ BX) ?_
  simp only [Act.put]
  go_upto_region 5 with (go_at_call 10; (with_reducible refine (q1.out _ (bRefl _)).mono ?_); rintro e w8 ⟨rfl, b8⟩)
  clear q1
  have bw8 := bCall bw b8
  have BX8 := BX.below b8 BX.lt
  have B8 : Below w7.heap.size w7 w8 := b8
  go_wp2_with fail
  refine (read_is _ (oneW, 0, 0) w8 ex_oneR (Nat.le_of_ble_eq_true rfl) ((hG.below bw8).more bw8.size)).mono ?_
  rintro e w9 ⟨s, rfl, hW9, b9, -⟩
  dsimp only at hW9 ⊢
  have bw9 := bCall bw8 b9
  have BX9 := (BX8.below b9 BX8.lt).alloc (.cells (s.cl oneW).toArray 35)
  have B9 := bAl (bCall B8 b9) (.cells (s.cl oneW).toArray 35)
  have BR := Blk.new w9 35 (s.cl oneW).toArray _ rfl
  have hW10 := (hW9.below (bAl (bRefl w9) (.cells (s.cl oneW).toArray 35))).more (show w9.heap.size ≤ (w9.alloc (.cells (s.cl oneW).toArray 35)).heap.size by simp)
  have qq := qS.out s _ hW10 B9
  have bw10 := bAl bw9 (.cells (s.cl oneW).toArray 35)
  have LL2 : Hid (∀ w' g', Blk w' g' 35 (s.cl oneW).toArray → (Instr.loadAt 35 (.pointer (some ⟨g', 0, none⟩))).run Tryz.prog w' = .ok (.agg (s.cl oneW).toArray) w') := Lib.hid (fun w' g' B => whole_ld rfl B)
  have hst := store_newW (P := Tryz.prog) (w := w9) (t := 35) (ty := 35) (old := (nilWS.cl zeroW).toArray) (X := (s.cl oneW).toArray) (by rw [wsCl_size rfl]; exact world_info) (by rw [wsCl_size rfl]; rfl) wsCl_one
  have hY2 : (s.cl oneW).toArray.size = 43 := wsCl_size rfl
  generalize (s.cl oneW).toArray = Y2 at *
  clear hW9 hW10 qS
  iterate 16 go_step
  refine wpList_storeG (by rfl) (by rfl) (by rfl) (by rfl) hst ?_
  simp only [Act.put]
  clear hst
  have hW9s := bw9.size
  generalize hg4 : w9.heap.size = g4 at *
  generalize w9.alloc (.cells Y2 35) = w10 at *
  go_upto_region 6 with fail
  apply wp_region_lit
  iterate 39 go_step
  refine wpList_loadG (by rfl) (by rfl) (by rfl) (LL2.out _ _ BR) ?_
  simp only [Act.put]
  refine wpList_loadG (by rfl) (by rfl) (by rfl) (LL.out _ BX9) ?_
  simp only [Act.put]
  go_upto_region 8 with (go_at_call 14; (with_reducible refine qq.mono ?_); rintro e w11 ⟨rfl, b11⟩)
  have bw11 := bCall bw10 b11
  have BR11 := BR.below b11 BR.lt
  have b11s : g4 < w11.heap.size := BR11.lt
  clear qq LL LL2 BX9 BX8 BX BA BB hW1 B9 B8 b8 b9 bw bw8 bw9 b11 BR
  apply wp_region_lit
  iterate 69 go_step
  refine wpList_buildG (by rfl) (by rfl) (by rfl) (built_all w11.heap.size) ?_
  simp only [Act.put]
  iterate 3 go_step
  obtain ⟨v1, hv1⟩ : ∃ v, v = w11.alloc (.cells #[.int .i64 1, .int .i64 0] 3) := ⟨_, rfl⟩
  rw [← hv1]
  have z1 : v1.heap.size = w11.heap.size + 1 := by rw [hv1]; simp
  have C0 : Blk v1 (w11.heap.size) 3 #[.int .i64 1, .int .i64 0] := by rw [hv1]; exact Blk.new _ _ _ _ rfl
  have bv1 : Below W.heap.size W v1 := by rw [hv1]; exact bAl bw11 _
  replace BR11 := BR11.alloc (.cells #[.int .i64 1, .int .i64 0] 3)
  rw [← hv1] at BR11
  clear hv1
  obtain ⟨v2, hv2⟩ : ∃ v, v = v1.alloc (.cells #[.int .i64 7] 3) := ⟨_, rfl⟩
  rw [← hv2]
  have z2 : v2.heap.size = w11.heap.size + 1 + 1 := by rw [hv2]; simp [z1]
  have C1 : Blk v2 (w11.heap.size + 1) 3 #[.int .i64 7] := by rw [hv2]; exact Blk.new _ _ _ _ z1.symm
  replace C0 := C0.alloc (.cells #[.int .i64 7] 3)
  rw [← hv2] at C0
  have bv2 : Below W.heap.size W v2 := by rw [hv2]; exact bAl bv1 _
  replace BR11 := BR11.alloc (.cells #[.int .i64 7] 3)
  rw [← hv2] at BR11
  clear hv2 z1 bv1
  obtain ⟨v3, hv3⟩ : ∃ v, v = v2.alloc (.cells #[.int .i64 5, .int .i64 9, .int .i64 2] 59) := ⟨_, rfl⟩
  rw [← hv3]
  have z3 : v3.heap.size = w11.heap.size + 1 + 1 + 1 := by rw [hv3]; simp [z2]
  have C2 : Blk v3 (w11.heap.size + 1 + 1) 59 #[.int .i64 5, .int .i64 9, .int .i64 2] := by rw [hv3]; exact Blk.new _ _ _ _ z2.symm
  replace C0 := C0.alloc (.cells #[.int .i64 5, .int .i64 9, .int .i64 2] 59)
  rw [← hv3] at C0
  replace C1 := C1.alloc (.cells #[.int .i64 5, .int .i64 9, .int .i64 2] 59)
  rw [← hv3] at C1
  have bv3 : Below W.heap.size W v3 := by rw [hv3]; exact bAl bv2 _
  replace BR11 := BR11.alloc (.cells #[.int .i64 5, .int .i64 9, .int .i64 2] 59)
  rw [← hv3] at BR11
  clear hv3 z2 bv2
  obtain ⟨v4, hv4⟩ : ∃ v, v = v3.alloc (.cells #[.int .i64 6, .int .i64 7] 61) := ⟨_, rfl⟩
  rw [← hv4]
  have z4 : v4.heap.size = w11.heap.size + 1 + 1 + 1 + 1 := by rw [hv4]; simp [z3]
  have C3 : Blk v4 (w11.heap.size + 1 + 1 + 1) 61 #[.int .i64 6, .int .i64 7] := by rw [hv4]; exact Blk.new _ _ _ _ z3.symm
  replace C0 := C0.alloc (.cells #[.int .i64 6, .int .i64 7] 61)
  rw [← hv4] at C0
  replace C1 := C1.alloc (.cells #[.int .i64 6, .int .i64 7] 61)
  rw [← hv4] at C1
  replace C2 := C2.alloc (.cells #[.int .i64 6, .int .i64 7] 61)
  rw [← hv4] at C2
  have bv4 : Below W.heap.size W v4 := by rw [hv4]; exact bAl bv3 _
  replace BR11 := BR11.alloc (.cells #[.int .i64 6, .int .i64 7] 61)
  rw [← hv4] at BR11
  clear hv4 z3 bv3
  obtain ⟨v5, hv5⟩ : ∃ v, v = v4.alloc (.cells #[.slice (some ⟨w11.heap.size, 0, none⟩) 2 2, .slice (some ⟨w11.heap.size + 1, 0, none⟩) 1 1, .int .i64 1, .int .i64 4, .slice (some ⟨w11.heap.size + 1 + 1, 0, none⟩) 1 1, .slice (some ⟨w11.heap.size + 1 + 1 + 1, 0, none⟩) 1 1] 56) := ⟨_, rfl⟩
  rw [← hv5]
  have z5 : v5.heap.size = w11.heap.size + 1 + 1 + 1 + 1 + 1 := by rw [hv5]; simp [z4]
  have C4 : Blk v5 (w11.heap.size + 1 + 1 + 1 + 1) 56 #[.slice (some ⟨w11.heap.size, 0, none⟩) 2 2, .slice (some ⟨w11.heap.size + 1, 0, none⟩) 1 1, .int .i64 1, .int .i64 4, .slice (some ⟨w11.heap.size + 1 + 1, 0, none⟩) 1 1, .slice (some ⟨w11.heap.size + 1 + 1 + 1, 0, none⟩) 1 1] := by rw [hv5]; exact Blk.new _ _ _ _ z4.symm
  replace C0 := C0.alloc (.cells #[.slice (some ⟨w11.heap.size, 0, none⟩) 2 2, .slice (some ⟨w11.heap.size + 1, 0, none⟩) 1 1, .int .i64 1, .int .i64 4, .slice (some ⟨w11.heap.size + 1 + 1, 0, none⟩) 1 1, .slice (some ⟨w11.heap.size + 1 + 1 + 1, 0, none⟩) 1 1] 56)
  rw [← hv5] at C0
  replace C1 := C1.alloc (.cells #[.slice (some ⟨w11.heap.size, 0, none⟩) 2 2, .slice (some ⟨w11.heap.size + 1, 0, none⟩) 1 1, .int .i64 1, .int .i64 4, .slice (some ⟨w11.heap.size + 1 + 1, 0, none⟩) 1 1, .slice (some ⟨w11.heap.size + 1 + 1 + 1, 0, none⟩) 1 1] 56)
  rw [← hv5] at C1
  replace C2 := C2.alloc (.cells #[.slice (some ⟨w11.heap.size, 0, none⟩) 2 2, .slice (some ⟨w11.heap.size + 1, 0, none⟩) 1 1, .int .i64 1, .int .i64 4, .slice (some ⟨w11.heap.size + 1 + 1, 0, none⟩) 1 1, .slice (some ⟨w11.heap.size + 1 + 1 + 1, 0, none⟩) 1 1] 56)
  rw [← hv5] at C2
  replace C3 := C3.alloc (.cells #[.slice (some ⟨w11.heap.size, 0, none⟩) 2 2, .slice (some ⟨w11.heap.size + 1, 0, none⟩) 1 1, .int .i64 1, .int .i64 4, .slice (some ⟨w11.heap.size + 1 + 1, 0, none⟩) 1 1, .slice (some ⟨w11.heap.size + 1 + 1 + 1, 0, none⟩) 1 1] 56)
  rw [← hv5] at C3
  have bv5 : Below W.heap.size W v5 := by rw [hv5]; exact bAl bv4 _
  replace BR11 := BR11.alloc (.cells #[.slice (some ⟨w11.heap.size, 0, none⟩) 2 2, .slice (some ⟨w11.heap.size + 1, 0, none⟩) 1 1, .int .i64 1, .int .i64 4, .slice (some ⟨w11.heap.size + 1 + 1, 0, none⟩) 1 1, .slice (some ⟨w11.heap.size + 1 + 1 + 1, 0, none⟩) 1 1] 56)
  rw [← hv5] at BR11
  clear hv5 z4 bv4
  obtain ⟨v6, hv6⟩ : ∃ v, v = v5.alloc (.cells #[.int .i64 10] 3) := ⟨_, rfl⟩
  rw [← hv6]
  have z6 : v6.heap.size = w11.heap.size + 1 + 1 + 1 + 1 + 1 + 1 := by rw [hv6]; simp [z5]
  have C5 : Blk v6 (w11.heap.size + 1 + 1 + 1 + 1 + 1) 3 #[.int .i64 10] := by rw [hv6]; exact Blk.new _ _ _ _ z5.symm
  replace C0 := C0.alloc (.cells #[.int .i64 10] 3)
  rw [← hv6] at C0
  replace C1 := C1.alloc (.cells #[.int .i64 10] 3)
  rw [← hv6] at C1
  replace C2 := C2.alloc (.cells #[.int .i64 10] 3)
  rw [← hv6] at C2
  replace C3 := C3.alloc (.cells #[.int .i64 10] 3)
  rw [← hv6] at C3
  replace C4 := C4.alloc (.cells #[.int .i64 10] 3)
  rw [← hv6] at C4
  have bv6 : Below W.heap.size W v6 := by rw [hv6]; exact bAl bv5 _
  replace BR11 := BR11.alloc (.cells #[.int .i64 10] 3)
  rw [← hv6] at BR11
  clear hv6 z5 bv5
  obtain ⟨v7, hv7⟩ : ∃ v, v = v6.alloc (.cells #[.int .i64 3] 3) := ⟨_, rfl⟩
  rw [← hv7]
  have z7 : v7.heap.size = w11.heap.size + 1 + 1 + 1 + 1 + 1 + 1 + 1 := by rw [hv7]; simp [z6]
  have C6 : Blk v7 (w11.heap.size + 1 + 1 + 1 + 1 + 1 + 1) 3 #[.int .i64 3] := by rw [hv7]; exact Blk.new _ _ _ _ z6.symm
  replace C0 := C0.alloc (.cells #[.int .i64 3] 3)
  rw [← hv7] at C0
  replace C1 := C1.alloc (.cells #[.int .i64 3] 3)
  rw [← hv7] at C1
  replace C2 := C2.alloc (.cells #[.int .i64 3] 3)
  rw [← hv7] at C2
  replace C3 := C3.alloc (.cells #[.int .i64 3] 3)
  rw [← hv7] at C3
  replace C4 := C4.alloc (.cells #[.int .i64 3] 3)
  rw [← hv7] at C4
  replace C5 := C5.alloc (.cells #[.int .i64 3] 3)
  rw [← hv7] at C5
  have bv7 : Below W.heap.size W v7 := by rw [hv7]; exact bAl bv6 _
  replace BR11 := BR11.alloc (.cells #[.int .i64 3] 3)
  rw [← hv7] at BR11
  clear hv7 z6 bv6
  obtain ⟨v8, hv8⟩ : ∃ v, v = v7.alloc (.cells #[.int .i64 2, .int .i64 8] 63) := ⟨_, rfl⟩
  rw [← hv8]
  have z8 : v8.heap.size = w11.heap.size + 1 + 1 + 1 + 1 + 1 + 1 + 1 + 1 := by rw [hv8]; simp [z7]
  have C7 : Blk v8 (w11.heap.size + 1 + 1 + 1 + 1 + 1 + 1 + 1) 63 #[.int .i64 2, .int .i64 8] := by rw [hv8]; exact Blk.new _ _ _ _ z7.symm
  replace C0 := C0.alloc (.cells #[.int .i64 2, .int .i64 8] 63)
  rw [← hv8] at C0
  replace C1 := C1.alloc (.cells #[.int .i64 2, .int .i64 8] 63)
  rw [← hv8] at C1
  replace C2 := C2.alloc (.cells #[.int .i64 2, .int .i64 8] 63)
  rw [← hv8] at C2
  replace C3 := C3.alloc (.cells #[.int .i64 2, .int .i64 8] 63)
  rw [← hv8] at C3
  replace C4 := C4.alloc (.cells #[.int .i64 2, .int .i64 8] 63)
  rw [← hv8] at C4
  replace C5 := C5.alloc (.cells #[.int .i64 2, .int .i64 8] 63)
  rw [← hv8] at C5
  replace C6 := C6.alloc (.cells #[.int .i64 2, .int .i64 8] 63)
  rw [← hv8] at C6
  have bv8 : Below W.heap.size W v8 := by rw [hv8]; exact bAl bv7 _
  replace BR11 := BR11.alloc (.cells #[.int .i64 2, .int .i64 8] 63)
  rw [← hv8] at BR11
  clear hv8 z7 bv7
  obtain ⟨v9, hv9⟩ : ∃ v, v = v8.alloc (.cells #[.int .i64 0] 3) := ⟨_, rfl⟩
  rw [← hv9]
  have z9 : v9.heap.size = w11.heap.size + 1 + 1 + 1 + 1 + 1 + 1 + 1 + 1 + 1 := by rw [hv9]; simp [z8]
  have C8 : Blk v9 (w11.heap.size + 1 + 1 + 1 + 1 + 1 + 1 + 1 + 1) 3 #[.int .i64 0] := by rw [hv9]; exact Blk.new _ _ _ _ z8.symm
  replace C0 := C0.alloc (.cells #[.int .i64 0] 3)
  rw [← hv9] at C0
  replace C1 := C1.alloc (.cells #[.int .i64 0] 3)
  rw [← hv9] at C1
  replace C2 := C2.alloc (.cells #[.int .i64 0] 3)
  rw [← hv9] at C2
  replace C3 := C3.alloc (.cells #[.int .i64 0] 3)
  rw [← hv9] at C3
  replace C4 := C4.alloc (.cells #[.int .i64 0] 3)
  rw [← hv9] at C4
  replace C5 := C5.alloc (.cells #[.int .i64 0] 3)
  rw [← hv9] at C5
  replace C6 := C6.alloc (.cells #[.int .i64 0] 3)
  rw [← hv9] at C6
  replace C7 := C7.alloc (.cells #[.int .i64 0] 3)
  rw [← hv9] at C7
  have bv9 : Below W.heap.size W v9 := by rw [hv9]; exact bAl bv8 _
  replace BR11 := BR11.alloc (.cells #[.int .i64 0] 3)
  rw [← hv9] at BR11
  clear hv9 z8 bv8
  obtain ⟨v10, hv10⟩ : ∃ v, v = v9.alloc (.cells #[.int .i64 1, .int .i64 2, .int .i64 0, .int .i64 0, .int .i64 3, .int .i64 40, .int .i64 2, .int .i64 50, .slice (some ⟨w11.heap.size + 1 + 1 + 1 + 1 + 1 + 1 + 1 + 1, 0, none⟩) 1 1, .bool true, .int .i64 1] 65) := ⟨_, rfl⟩
  rw [← hv10]
  have z10 : v10.heap.size = w11.heap.size + 1 + 1 + 1 + 1 + 1 + 1 + 1 + 1 + 1 + 1 := by rw [hv10]; simp [z9]
  have C9 : Blk v10 (w11.heap.size + 1 + 1 + 1 + 1 + 1 + 1 + 1 + 1 + 1) 65 #[.int .i64 1, .int .i64 2, .int .i64 0, .int .i64 0, .int .i64 3, .int .i64 40, .int .i64 2, .int .i64 50, .slice (some ⟨w11.heap.size + 1 + 1 + 1 + 1 + 1 + 1 + 1 + 1, 0, none⟩) 1 1, .bool true, .int .i64 1] := by rw [hv10]; exact Blk.new _ _ _ _ z9.symm
  replace C0 := C0.alloc (.cells #[.int .i64 1, .int .i64 2, .int .i64 0, .int .i64 0, .int .i64 3, .int .i64 40, .int .i64 2, .int .i64 50, .slice (some ⟨w11.heap.size + 1 + 1 + 1 + 1 + 1 + 1 + 1 + 1, 0, none⟩) 1 1, .bool true, .int .i64 1] 65)
  rw [← hv10] at C0
  replace C1 := C1.alloc (.cells #[.int .i64 1, .int .i64 2, .int .i64 0, .int .i64 0, .int .i64 3, .int .i64 40, .int .i64 2, .int .i64 50, .slice (some ⟨w11.heap.size + 1 + 1 + 1 + 1 + 1 + 1 + 1 + 1, 0, none⟩) 1 1, .bool true, .int .i64 1] 65)
  rw [← hv10] at C1
  replace C2 := C2.alloc (.cells #[.int .i64 1, .int .i64 2, .int .i64 0, .int .i64 0, .int .i64 3, .int .i64 40, .int .i64 2, .int .i64 50, .slice (some ⟨w11.heap.size + 1 + 1 + 1 + 1 + 1 + 1 + 1 + 1, 0, none⟩) 1 1, .bool true, .int .i64 1] 65)
  rw [← hv10] at C2
  replace C3 := C3.alloc (.cells #[.int .i64 1, .int .i64 2, .int .i64 0, .int .i64 0, .int .i64 3, .int .i64 40, .int .i64 2, .int .i64 50, .slice (some ⟨w11.heap.size + 1 + 1 + 1 + 1 + 1 + 1 + 1 + 1, 0, none⟩) 1 1, .bool true, .int .i64 1] 65)
  rw [← hv10] at C3
  replace C4 := C4.alloc (.cells #[.int .i64 1, .int .i64 2, .int .i64 0, .int .i64 0, .int .i64 3, .int .i64 40, .int .i64 2, .int .i64 50, .slice (some ⟨w11.heap.size + 1 + 1 + 1 + 1 + 1 + 1 + 1 + 1, 0, none⟩) 1 1, .bool true, .int .i64 1] 65)
  rw [← hv10] at C4
  replace C5 := C5.alloc (.cells #[.int .i64 1, .int .i64 2, .int .i64 0, .int .i64 0, .int .i64 3, .int .i64 40, .int .i64 2, .int .i64 50, .slice (some ⟨w11.heap.size + 1 + 1 + 1 + 1 + 1 + 1 + 1 + 1, 0, none⟩) 1 1, .bool true, .int .i64 1] 65)
  rw [← hv10] at C5
  replace C6 := C6.alloc (.cells #[.int .i64 1, .int .i64 2, .int .i64 0, .int .i64 0, .int .i64 3, .int .i64 40, .int .i64 2, .int .i64 50, .slice (some ⟨w11.heap.size + 1 + 1 + 1 + 1 + 1 + 1 + 1 + 1, 0, none⟩) 1 1, .bool true, .int .i64 1] 65)
  rw [← hv10] at C6
  replace C7 := C7.alloc (.cells #[.int .i64 1, .int .i64 2, .int .i64 0, .int .i64 0, .int .i64 3, .int .i64 40, .int .i64 2, .int .i64 50, .slice (some ⟨w11.heap.size + 1 + 1 + 1 + 1 + 1 + 1 + 1 + 1, 0, none⟩) 1 1, .bool true, .int .i64 1] 65)
  rw [← hv10] at C7
  replace C8 := C8.alloc (.cells #[.int .i64 1, .int .i64 2, .int .i64 0, .int .i64 0, .int .i64 3, .int .i64 40, .int .i64 2, .int .i64 50, .slice (some ⟨w11.heap.size + 1 + 1 + 1 + 1 + 1 + 1 + 1 + 1, 0, none⟩) 1 1, .bool true, .int .i64 1] 65)
  rw [← hv10] at C8
  have bv10 : Below W.heap.size W v10 := by rw [hv10]; exact bAl bv9 _
  replace BR11 := BR11.alloc (.cells #[.int .i64 1, .int .i64 2, .int .i64 0, .int .i64 0, .int .i64 3, .int .i64 40, .int .i64 2, .int .i64 50, .slice (some ⟨w11.heap.size + 1 + 1 + 1 + 1 + 1 + 1 + 1 + 1, 0, none⟩) 1 1, .bool true, .int .i64 1] 65)
  rw [← hv10] at BR11
  clear hv10 z9 bv9
  obtain ⟨v11, hv11⟩ : ∃ v, v = v10.alloc (.cells #[.int .i64 6, .int .i64 1, .int .i64 2, .int .i64 1, .int .i64 0, .int .i64 8, .int .i64 1, .int .i64 9] 67) := ⟨_, rfl⟩
  rw [← hv11]
  have z11 : v11.heap.size = w11.heap.size + 1 + 1 + 1 + 1 + 1 + 1 + 1 + 1 + 1 + 1 + 1 := by rw [hv11]; simp [z10]
  have C10 : Blk v11 (w11.heap.size + 1 + 1 + 1 + 1 + 1 + 1 + 1 + 1 + 1 + 1) 67 #[.int .i64 6, .int .i64 1, .int .i64 2, .int .i64 1, .int .i64 0, .int .i64 8, .int .i64 1, .int .i64 9] := by rw [hv11]; exact Blk.new _ _ _ _ z10.symm
  replace C0 := C0.alloc (.cells #[.int .i64 6, .int .i64 1, .int .i64 2, .int .i64 1, .int .i64 0, .int .i64 8, .int .i64 1, .int .i64 9] 67)
  rw [← hv11] at C0
  replace C1 := C1.alloc (.cells #[.int .i64 6, .int .i64 1, .int .i64 2, .int .i64 1, .int .i64 0, .int .i64 8, .int .i64 1, .int .i64 9] 67)
  rw [← hv11] at C1
  replace C2 := C2.alloc (.cells #[.int .i64 6, .int .i64 1, .int .i64 2, .int .i64 1, .int .i64 0, .int .i64 8, .int .i64 1, .int .i64 9] 67)
  rw [← hv11] at C2
  replace C3 := C3.alloc (.cells #[.int .i64 6, .int .i64 1, .int .i64 2, .int .i64 1, .int .i64 0, .int .i64 8, .int .i64 1, .int .i64 9] 67)
  rw [← hv11] at C3
  replace C4 := C4.alloc (.cells #[.int .i64 6, .int .i64 1, .int .i64 2, .int .i64 1, .int .i64 0, .int .i64 8, .int .i64 1, .int .i64 9] 67)
  rw [← hv11] at C4
  replace C5 := C5.alloc (.cells #[.int .i64 6, .int .i64 1, .int .i64 2, .int .i64 1, .int .i64 0, .int .i64 8, .int .i64 1, .int .i64 9] 67)
  rw [← hv11] at C5
  replace C6 := C6.alloc (.cells #[.int .i64 6, .int .i64 1, .int .i64 2, .int .i64 1, .int .i64 0, .int .i64 8, .int .i64 1, .int .i64 9] 67)
  rw [← hv11] at C6
  replace C7 := C7.alloc (.cells #[.int .i64 6, .int .i64 1, .int .i64 2, .int .i64 1, .int .i64 0, .int .i64 8, .int .i64 1, .int .i64 9] 67)
  rw [← hv11] at C7
  replace C8 := C8.alloc (.cells #[.int .i64 6, .int .i64 1, .int .i64 2, .int .i64 1, .int .i64 0, .int .i64 8, .int .i64 1, .int .i64 9] 67)
  rw [← hv11] at C8
  replace C9 := C9.alloc (.cells #[.int .i64 6, .int .i64 1, .int .i64 2, .int .i64 1, .int .i64 0, .int .i64 8, .int .i64 1, .int .i64 9] 67)
  rw [← hv11] at C9
  have bv11 : Below W.heap.size W v11 := by rw [hv11]; exact bAl bv10 _
  replace BR11 := BR11.alloc (.cells #[.int .i64 6, .int .i64 1, .int .i64 2, .int .i64 1, .int .i64 0, .int .i64 8, .int .i64 1, .int .i64 9] 67)
  rw [← hv11] at BR11
  clear hv11 z10 bv10
  obtain ⟨v12, hv12⟩ : ∃ v, v = v11.alloc (.cells #[.int .i64 70, .int .i64 80] 3) := ⟨_, rfl⟩
  rw [← hv12]
  have z12 : v12.heap.size = w11.heap.size + 1 + 1 + 1 + 1 + 1 + 1 + 1 + 1 + 1 + 1 + 1 + 1 := by rw [hv12]; simp [z11]
  have C11 : Blk v12 (w11.heap.size + 1 + 1 + 1 + 1 + 1 + 1 + 1 + 1 + 1 + 1 + 1) 3 #[.int .i64 70, .int .i64 80] := by rw [hv12]; exact Blk.new _ _ _ _ z11.symm
  replace C0 := C0.alloc (.cells #[.int .i64 70, .int .i64 80] 3)
  rw [← hv12] at C0
  replace C1 := C1.alloc (.cells #[.int .i64 70, .int .i64 80] 3)
  rw [← hv12] at C1
  replace C2 := C2.alloc (.cells #[.int .i64 70, .int .i64 80] 3)
  rw [← hv12] at C2
  replace C3 := C3.alloc (.cells #[.int .i64 70, .int .i64 80] 3)
  rw [← hv12] at C3
  replace C4 := C4.alloc (.cells #[.int .i64 70, .int .i64 80] 3)
  rw [← hv12] at C4
  replace C5 := C5.alloc (.cells #[.int .i64 70, .int .i64 80] 3)
  rw [← hv12] at C5
  replace C6 := C6.alloc (.cells #[.int .i64 70, .int .i64 80] 3)
  rw [← hv12] at C6
  replace C7 := C7.alloc (.cells #[.int .i64 70, .int .i64 80] 3)
  rw [← hv12] at C7
  replace C8 := C8.alloc (.cells #[.int .i64 70, .int .i64 80] 3)
  rw [← hv12] at C8
  replace C9 := C9.alloc (.cells #[.int .i64 70, .int .i64 80] 3)
  rw [← hv12] at C9
  replace C10 := C10.alloc (.cells #[.int .i64 70, .int .i64 80] 3)
  rw [← hv12] at C10
  have bv12 : Below W.heap.size W v12 := by rw [hv12]; exact bAl bv11 _
  replace BR11 := BR11.alloc (.cells #[.int .i64 70, .int .i64 80] 3)
  rw [← hv12] at BR11
  clear hv12 z11 bv11
  obtain ⟨v13, hv13⟩ : ∃ v, v = v12.alloc (.cells #[.int .i64 1, .int .i64 0, .int .i64 1, .int .i64 2] 71) := ⟨_, rfl⟩
  rw [← hv13]
  have z13 : v13.heap.size = w11.heap.size + 1 + 1 + 1 + 1 + 1 + 1 + 1 + 1 + 1 + 1 + 1 + 1 + 1 := by rw [hv13]; simp [z12]
  have C12 : Blk v13 (w11.heap.size + 1 + 1 + 1 + 1 + 1 + 1 + 1 + 1 + 1 + 1 + 1 + 1) 71 #[.int .i64 1, .int .i64 0, .int .i64 1, .int .i64 2] := by rw [hv13]; exact Blk.new _ _ _ _ z12.symm
  replace C0 := C0.alloc (.cells #[.int .i64 1, .int .i64 0, .int .i64 1, .int .i64 2] 71)
  rw [← hv13] at C0
  replace C1 := C1.alloc (.cells #[.int .i64 1, .int .i64 0, .int .i64 1, .int .i64 2] 71)
  rw [← hv13] at C1
  replace C2 := C2.alloc (.cells #[.int .i64 1, .int .i64 0, .int .i64 1, .int .i64 2] 71)
  rw [← hv13] at C2
  replace C3 := C3.alloc (.cells #[.int .i64 1, .int .i64 0, .int .i64 1, .int .i64 2] 71)
  rw [← hv13] at C3
  replace C4 := C4.alloc (.cells #[.int .i64 1, .int .i64 0, .int .i64 1, .int .i64 2] 71)
  rw [← hv13] at C4
  replace C5 := C5.alloc (.cells #[.int .i64 1, .int .i64 0, .int .i64 1, .int .i64 2] 71)
  rw [← hv13] at C5
  replace C6 := C6.alloc (.cells #[.int .i64 1, .int .i64 0, .int .i64 1, .int .i64 2] 71)
  rw [← hv13] at C6
  replace C7 := C7.alloc (.cells #[.int .i64 1, .int .i64 0, .int .i64 1, .int .i64 2] 71)
  rw [← hv13] at C7
  replace C8 := C8.alloc (.cells #[.int .i64 1, .int .i64 0, .int .i64 1, .int .i64 2] 71)
  rw [← hv13] at C8
  replace C9 := C9.alloc (.cells #[.int .i64 1, .int .i64 0, .int .i64 1, .int .i64 2] 71)
  rw [← hv13] at C9
  replace C10 := C10.alloc (.cells #[.int .i64 1, .int .i64 0, .int .i64 1, .int .i64 2] 71)
  rw [← hv13] at C10
  replace C11 := C11.alloc (.cells #[.int .i64 1, .int .i64 0, .int .i64 1, .int .i64 2] 71)
  rw [← hv13] at C11
  have bv13 : Below W.heap.size W v13 := by rw [hv13]; exact bAl bv12 _
  replace BR11 := BR11.alloc (.cells #[.int .i64 1, .int .i64 0, .int .i64 1, .int .i64 2] 71)
  rw [← hv13] at BR11
  clear hv13 z12 bv12
  have hst := store_newW (P := Tryz.prog) (w := v13) (t := 35) (ty := 35) (old := (nilWS.cl zeroW).toArray) (X := ((sAll w11.heap.size).cl all0).toArray) (by rw [wsCl_size rfl]; exact world_info) (by rw [wsCl_size rfl]; rfl) wsCl_one
  rw [z13] at hst
  refine wpList_storeG (by rfl) (by rfl) (by rfl) (by rfl) hst ?_
  simp only [Act.put]
  clear hst
  have BX := Blk.new v13 35 ((sAll w11.heap.size).cl all0).toArray (w11.heap.size + 1 + 1 + 1 + 1 + 1 + 1 + 1 + 1 + 1 + 1 + 1 + 1 + 1) z13.symm
  have bv := bAl bv13 (.cells ((sAll w11.heap.size).cl all0).toArray 35)
  replace C0 := C0.alloc (.cells ((sAll w11.heap.size).cl all0).toArray 35)
  replace C1 := C1.alloc (.cells ((sAll w11.heap.size).cl all0).toArray 35)
  replace C2 := C2.alloc (.cells ((sAll w11.heap.size).cl all0).toArray 35)
  replace C3 := C3.alloc (.cells ((sAll w11.heap.size).cl all0).toArray 35)
  replace C4 := C4.alloc (.cells ((sAll w11.heap.size).cl all0).toArray 35)
  replace C5 := C5.alloc (.cells ((sAll w11.heap.size).cl all0).toArray 35)
  replace C6 := C6.alloc (.cells ((sAll w11.heap.size).cl all0).toArray 35)
  replace C7 := C7.alloc (.cells ((sAll w11.heap.size).cl all0).toArray 35)
  replace C8 := C8.alloc (.cells ((sAll w11.heap.size).cl all0).toArray 35)
  replace C9 := C9.alloc (.cells ((sAll w11.heap.size).cl all0).toArray 35)
  replace C10 := C10.alloc (.cells ((sAll w11.heap.size).cl all0).toArray 35)
  replace C11 := C11.alloc (.cells ((sAll w11.heap.size).cl all0).toArray 35)
  replace C12 := C12.alloc (.cells ((sAll w11.heap.size).cl all0).toArray 35)
  replace BR11 := BR11.alloc (.cells ((sAll w11.heap.size).cl all0).toArray 35)
  generalize v13.alloc (.cells ((sAll w11.heap.size).cl all0).toArray 35) = v14 at *
  have hlw := bw11.size
  have hWg4 : W.heap.size ≤ g4 := hW9s
  have hgl := BR11.lt
  have hne : g4 ≠ w11.heap.size + 1 + 1 + 1 + 1 + 1 + 1 + 1 + 1 + 1 + 1 + 1 + 1 + 1 := by
    have := b11s
    omega
  clear z13 bv13
  generalize hn : w11.heap.size = n at *
  clear hn
  have c10 : v14.cell? ⟨n + 1 + 1 + 1 + 1 + 1 + 1 + 1 + 1 + 1 + 1 + 1 + 1 + 1, 10, none⟩ = some (.int .u8 0) := (BX.cell 10).trans rfl
  have z10 := BX.frozen 10
  go_upto_region 10 with fail
  have bv2 := bv.setCell (p := ⟨n + 1 + 1 + 1 + 1 + 1 + 1 + 1 + 1 + 1 + 1 + 1 + 1 + 1, 10, none⟩) (by show W.heap.size ≤ n + 1 + 1 + 1 + 1 + 1 + 1 + 1 + 1 + 1 + 1 + 1 + 1 + 1; omega) (.int .u8 171)
  have BX2 := BX.set_ 10 (.int .u8 171)
  rw [show ((sAll n).cl all0).toArray.setIfInBounds 10 (.int .u8 171) = ((sAll n).cl allW).toArray by kernel_rfl] at BX2
  replace BR11 := BR11.far (p := ⟨n + 1 + 1 + 1 + 1 + 1 + 1 + 1 + 1 + 1 + 1 + 1 + 1 + 1, 10, none⟩) hne (.int .u8 171)
  replace C0 := C0.far (p := ⟨n + 1 + 1 + 1 + 1 + 1 + 1 + 1 + 1 + 1 + 1 + 1 + 1 + 1, 10, none⟩) (by show n ≠ n + 1 + 1 + 1 + 1 + 1 + 1 + 1 + 1 + 1 + 1 + 1 + 1 + 1; omega) (.int .u8 171)
  replace C1 := C1.far (p := ⟨n + 1 + 1 + 1 + 1 + 1 + 1 + 1 + 1 + 1 + 1 + 1 + 1 + 1, 10, none⟩) (by show n + 1 ≠ n + 1 + 1 + 1 + 1 + 1 + 1 + 1 + 1 + 1 + 1 + 1 + 1 + 1; omega) (.int .u8 171)
  replace C2 := C2.far (p := ⟨n + 1 + 1 + 1 + 1 + 1 + 1 + 1 + 1 + 1 + 1 + 1 + 1 + 1, 10, none⟩) (by show n + 1 + 1 ≠ n + 1 + 1 + 1 + 1 + 1 + 1 + 1 + 1 + 1 + 1 + 1 + 1 + 1; omega) (.int .u8 171)
  replace C3 := C3.far (p := ⟨n + 1 + 1 + 1 + 1 + 1 + 1 + 1 + 1 + 1 + 1 + 1 + 1 + 1, 10, none⟩) (by show n + 1 + 1 + 1 ≠ n + 1 + 1 + 1 + 1 + 1 + 1 + 1 + 1 + 1 + 1 + 1 + 1 + 1; omega) (.int .u8 171)
  replace C4 := C4.far (p := ⟨n + 1 + 1 + 1 + 1 + 1 + 1 + 1 + 1 + 1 + 1 + 1 + 1 + 1, 10, none⟩) (by show n + 1 + 1 + 1 + 1 ≠ n + 1 + 1 + 1 + 1 + 1 + 1 + 1 + 1 + 1 + 1 + 1 + 1 + 1; omega) (.int .u8 171)
  replace C5 := C5.far (p := ⟨n + 1 + 1 + 1 + 1 + 1 + 1 + 1 + 1 + 1 + 1 + 1 + 1 + 1, 10, none⟩) (by show n + 1 + 1 + 1 + 1 + 1 ≠ n + 1 + 1 + 1 + 1 + 1 + 1 + 1 + 1 + 1 + 1 + 1 + 1 + 1; omega) (.int .u8 171)
  replace C6 := C6.far (p := ⟨n + 1 + 1 + 1 + 1 + 1 + 1 + 1 + 1 + 1 + 1 + 1 + 1 + 1, 10, none⟩) (by show n + 1 + 1 + 1 + 1 + 1 + 1 ≠ n + 1 + 1 + 1 + 1 + 1 + 1 + 1 + 1 + 1 + 1 + 1 + 1 + 1; omega) (.int .u8 171)
  replace C7 := C7.far (p := ⟨n + 1 + 1 + 1 + 1 + 1 + 1 + 1 + 1 + 1 + 1 + 1 + 1 + 1, 10, none⟩) (by show n + 1 + 1 + 1 + 1 + 1 + 1 + 1 ≠ n + 1 + 1 + 1 + 1 + 1 + 1 + 1 + 1 + 1 + 1 + 1 + 1 + 1; omega) (.int .u8 171)
  replace C8 := C8.far (p := ⟨n + 1 + 1 + 1 + 1 + 1 + 1 + 1 + 1 + 1 + 1 + 1 + 1 + 1, 10, none⟩) (by show n + 1 + 1 + 1 + 1 + 1 + 1 + 1 + 1 ≠ n + 1 + 1 + 1 + 1 + 1 + 1 + 1 + 1 + 1 + 1 + 1 + 1 + 1; omega) (.int .u8 171)
  replace C9 := C9.far (p := ⟨n + 1 + 1 + 1 + 1 + 1 + 1 + 1 + 1 + 1 + 1 + 1 + 1 + 1, 10, none⟩) (by show n + 1 + 1 + 1 + 1 + 1 + 1 + 1 + 1 + 1 ≠ n + 1 + 1 + 1 + 1 + 1 + 1 + 1 + 1 + 1 + 1 + 1 + 1 + 1; omega) (.int .u8 171)
  replace C10 := C10.far (p := ⟨n + 1 + 1 + 1 + 1 + 1 + 1 + 1 + 1 + 1 + 1 + 1 + 1 + 1, 10, none⟩) (by show n + 1 + 1 + 1 + 1 + 1 + 1 + 1 + 1 + 1 + 1 ≠ n + 1 + 1 + 1 + 1 + 1 + 1 + 1 + 1 + 1 + 1 + 1 + 1 + 1; omega) (.int .u8 171)
  replace C11 := C11.far (p := ⟨n + 1 + 1 + 1 + 1 + 1 + 1 + 1 + 1 + 1 + 1 + 1 + 1 + 1, 10, none⟩) (by show n + 1 + 1 + 1 + 1 + 1 + 1 + 1 + 1 + 1 + 1 + 1 ≠ n + 1 + 1 + 1 + 1 + 1 + 1 + 1 + 1 + 1 + 1 + 1 + 1 + 1; omega) (.int .u8 171)
  replace C12 := C12.far (p := ⟨n + 1 + 1 + 1 + 1 + 1 + 1 + 1 + 1 + 1 + 1 + 1 + 1 + 1, 10, none⟩) (by show n + 1 + 1 + 1 + 1 + 1 + 1 + 1 + 1 + 1 + 1 + 1 + 1 ≠ n + 1 + 1 + 1 + 1 + 1 + 1 + 1 + 1 + 1 + 1 + 1 + 1 + 1; omega) (.int .u8 171)
  have hW3 := wld_all C0 C1 C2 C3 C4 C5 C6 C7 C8 C9 C10 C11 C12
  clear BX c10 z10 bv
  generalize v14.setCell ⟨n + 1 + 1 + 1 + 1 + 1 + 1 + 1 + 1 + 1 + 1 + 1 + 1 + 1, 10, none⟩ (.int .u8 171) = v15 at *
  go_upto_region 11 with fail
  obtain ⟨SA, hSA⟩ : ∃ SA : ByteArray, Hid (SA = ⟨allT.toArray⟩) := ⟨_, Lib.hid rfl⟩
  have e8 : (⟨#[119, 111, 114, 108, 100, 32, 51, 32, 45, 52, 32, 50, 32, 97, 98]⟩ ++ ({ data := #[48, 48, 48, 48, 48, 48, 48, 48, 48, 48, 48, 48, 48, 48, 48, 48, 48, 48, 48, 48, 48, 48, 48, 48, 48, 48, 48, 48, 48, 48, 48, 48, 48, 48, 48, 48, 48, 48, 48, 48, 48, 48, 48, 48, 48, 48, 48, 48, 48, 48, 48, 48, 48, 48, 48, 48, 48, 48, 48, 48, 48, 48, 48, 48] } : ByteArray).extract 2 64 ++ ⟨#[10, 99, 108, 97, 115, 115, 32, 49, 48, 32, 51, 10, 116, 105, 101, 114, 32, 50, 32, 56, 10, 108, 105, 110, 101, 32, 49, 32, 52, 32, 50, 32, 49, 32, 48, 32, 55, 10, 114, 117, 108, 101, 32, 53, 32, 57, 32, 50, 10, 103, 97, 112, 32, 54, 32, 55, 10, 111, 114, 100, 101, 114, 32, 49, 32, 50, 32, 48, 32, 48, 32, 51, 32, 52, 48, 32, 50, 32, 53, 48, 32, 49, 32, 49, 32, 48, 10, 101, 110, 116, 114, 121, 32, 54, 32, 49, 32, 50, 32, 49, 32, 48, 32, 56, 32, 49, 32, 57, 10, 115, 101, 99, 114, 101, 116, 32, 55, 48, 10, 115, 101, 99, 114, 101, 116, 32, 56, 48, 10, 102, 97, 117, 108, 116, 32, 49, 32, 48, 32, 49, 32, 50, 10]⟩ : ByteArray) = SA := by
    rw [hSA.out]
    kernel_rfl
  rw [e8]
  clear e8
  have q1 : Hid (Calls Tryz.prog 10 #[.agg ((sAll n).cl allW).toArray] v15 (Ret (.tuple #[.string SA, .int .i64 0]) v15)) := Lib.hid (by
    have := rep_print (sAll n) allW v15 hW3 small_all (by decide) (Nat.le_of_ble_eq_true rfl) ((hG.below bv2).more bv2.size)
    rw [ex_all] at this
    rw [hSA.out]
    exact this)
  have LL : Hid (∀ w', Blk w' (n + 1 + 1 + 1 + 1 + 1 + 1 + 1 + 1 + 1 + 1 + 1 + 1 + 1) 35 ((sAll n).cl allW).toArray → (Instr.loadAt 35 (.pointer (some ⟨n + 1 + 1 + 1 + 1 + 1 + 1 + 1 + 1 + 1 + 1 + 1 + 1 + 1, 0, none⟩))).run Tryz.prog w' = .ok (.agg ((sAll n).cl allW).toArray) w') := Lib.hid (fun w' B => whole_ld rfl B)
  obtain ⟨Y3, hY3⟩ : ∃ Y, Hid (((sAll n).cl allW).toArray = Y) := ⟨_, Lib.hid rfl⟩
  rw [hY3.out] at BX2 q1 LL
  apply wp_region_lit
  refine wpList_loadG (by rfl) (by rfl) (by rfl) (LL.out _ BX2) ?_
  simp only [Act.put]
  go_upto_region 12 with (go_at_call 10; (with_reducible refine q1.out.mono ?_); rintro e w16 ⟨rfl, b16⟩)
  clear q1
  have bw16 := bCall bv2 b16
  have BX16 := BX2.below b16 BX2.lt
  have BR16 := BR11.below b16 BR11.lt
  go_wp2_with fail
  (with_reducible refine (read_is SA (allW, 0, 0) w16 (by rw [hSA.out]; exact ex_allR) (by rw [hSA.out]; exact Nat.le_of_ble_eq_true rfl) ((hG.below bw16).more bw16.size)).mono ?_)
  rintro e w17 ⟨s9, rfl, hW17, b17, hK17⟩
  dsimp only at hW17 ⊢
  have bw17 := bCall bw16 b17
  have BX17 := BX16.below b17 BX16.lt
  have BR17 := BR16.below b17 BR16.lt
  have hst := store_whole (P := Tryz.prog) (ty := 35) (X := (s9.cl allW).toArray) BR17 (by rw [wsCl_size rfl]; exact world_info) (hY2.trans (wsCl_size rfl).symm) wsCl_one
  have BX18 := BX17.farRow (Ne.symm hne) (s9.cl allW).toArray
  have BR18 := BR17.row (s9.cl allW).toArray
  replace C0 := ((C0.below b16 C0.lt).below b17 (C0.below b16 C0.lt).lt).farRow (show n ≠ g4 by omega) (s9.cl allW).toArray
  replace C1 := ((C1.below b16 C1.lt).below b17 (C1.below b16 C1.lt).lt).farRow (show n + 1 ≠ g4 by omega) (s9.cl allW).toArray
  replace C2 := ((C2.below b16 C2.lt).below b17 (C2.below b16 C2.lt).lt).farRow (show n + 1 + 1 ≠ g4 by omega) (s9.cl allW).toArray
  replace C3 := ((C3.below b16 C3.lt).below b17 (C3.below b16 C3.lt).lt).farRow (show n + 1 + 1 + 1 ≠ g4 by omega) (s9.cl allW).toArray
  replace C4 := ((C4.below b16 C4.lt).below b17 (C4.below b16 C4.lt).lt).farRow (show n + 1 + 1 + 1 + 1 ≠ g4 by omega) (s9.cl allW).toArray
  replace C5 := ((C5.below b16 C5.lt).below b17 (C5.below b16 C5.lt).lt).farRow (show n + 1 + 1 + 1 + 1 + 1 ≠ g4 by omega) (s9.cl allW).toArray
  replace C6 := ((C6.below b16 C6.lt).below b17 (C6.below b16 C6.lt).lt).farRow (show n + 1 + 1 + 1 + 1 + 1 + 1 ≠ g4 by omega) (s9.cl allW).toArray
  replace C7 := ((C7.below b16 C7.lt).below b17 (C7.below b16 C7.lt).lt).farRow (show n + 1 + 1 + 1 + 1 + 1 + 1 + 1 ≠ g4 by omega) (s9.cl allW).toArray
  replace C8 := ((C8.below b16 C8.lt).below b17 (C8.below b16 C8.lt).lt).farRow (show n + 1 + 1 + 1 + 1 + 1 + 1 + 1 + 1 ≠ g4 by omega) (s9.cl allW).toArray
  replace C9 := ((C9.below b16 C9.lt).below b17 (C9.below b16 C9.lt).lt).farRow (show n + 1 + 1 + 1 + 1 + 1 + 1 + 1 + 1 + 1 ≠ g4 by omega) (s9.cl allW).toArray
  replace C10 := ((C10.below b16 C10.lt).below b17 (C10.below b16 C10.lt).lt).farRow (show n + 1 + 1 + 1 + 1 + 1 + 1 + 1 + 1 + 1 + 1 ≠ g4 by omega) (s9.cl allW).toArray
  replace C11 := ((C11.below b16 C11.lt).below b17 (C11.below b16 C11.lt).lt).farRow (show n + 1 + 1 + 1 + 1 + 1 + 1 + 1 + 1 + 1 + 1 + 1 ≠ g4 by omega) (s9.cl allW).toArray
  replace C12 := ((C12.below b16 C12.lt).below b17 (C12.below b16 C12.lt).lt).farRow (show n + 1 + 1 + 1 + 1 + 1 + 1 + 1 + 1 + 1 + 1 + 1 + 1 ≠ g4 by omega) (s9.cl allW).toArray
  have hWa := wld_all C0 C1 C2 C3 C4 C5 C6 C7 C8 C9 C10 C11 C12
  have hWb := hK17 g4 _ _ (s9.cl allW).toArray BR16.lt BR17
  have hz18 : (w17.setRow g4 (s9.cl allW).toArray).heap.size = w17.heap.size := by simp [World.setRow]
  rw [← hz18] at hWb
  have q2 := ref_same allW s9 (sAll n) _ hWb hWa small_all
  rw [hY3.out] at q2
  have LL2 : Hid (∀ w' g', Blk w' g' 35 (s9.cl allW).toArray → (Instr.loadAt 35 (.pointer (some ⟨g', 0, none⟩))).run Tryz.prog w' = .ok (.agg (s9.cl allW).toArray) w') := Lib.hid (fun w' g' B => whole_ld rfl B)
  have bw18 := below_setRowR bw17 (show W.heap.size ≤ g4 from hWg4) (s9.cl allW).toArray
  clear C0 C1 C2 C3 C4 C5 C6 C7 C8 C9 C10 C11 C12 hWa hWb hK17 hW17 hz18
  generalize (s9.cl allW).toArray = Y9 at *
  iterate 13 go_step
  refine wpList_storeG (by rfl) (by rfl) (by rfl) (by rfl) hst ?_
  simp only [Act.put]
  clear hst
  generalize w17.setRow g4 Y9 = w18 at *
  go_upto_region 13 with fail
  apply wp_region_lit
  iterate 41 go_step
  refine wpList_loadG (by rfl) (by rfl) (by rfl) (LL2.out _ _ BR18) ?_
  simp only [Act.put]
  refine wpList_loadG (by rfl) (by rfl) (by rfl) (LL.out _ BX18) ?_
  simp only [Act.put]
  go_wp2_with (go_at_call 14; (with_reducible refine q2.mono ?_); rintro e w19 ⟨rfl, b19⟩)
  go_ret
  exact ⟨rfl, bCall bw18 b19⟩
end Go.Proofs.YtmbopkcmbiommaaGreatDoor
