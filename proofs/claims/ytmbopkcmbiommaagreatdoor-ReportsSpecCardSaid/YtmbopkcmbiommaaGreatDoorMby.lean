/-
  The reference's Print; walked.
-/
import Derived.Test.YtmbopkcmbiommaaGreatDoorMbx
import Derived.Test.YtmbopkcmbiommaaGreatDoorMbt
namespace Go.Proofs.YtmbopkcmbiommaaGreatDoor
open Go Go.RowKit

theorem ret_two {a b : ByteArray} {n : Int} (h : a = b) : Ending.returned (.tuple #[.string a, .int .i64 n]) = .returned (.tuple #[.string b, .int .i64 n]) := by rw [h]
theorem blk_over {w w' : World} {T : TypeId} {X : Array Value} (b : Below (w.alloc (.cells X T)).heap.size (w.alloc (.cells X T)) w') : Blk w' w.heap.size T X := (Blk.new w T X _ rfl).below b (Blk.new w T X _ rfl).lt
theorem ints_one {l : List Int} : ∀ u ∈ ints l, u.oneCell' = true := by
  intro u hu
  unfold ints at hu
  obtain ⟨a, _, rfl⟩ := List.mem_map.1 hu
  rfl
theorem rd_own {w : World} {base n c g : Nat} {e : TypeId} {xs : List Value} (h : w.ownsRow base e 1 (.slice (some ⟨g, 0, none⟩) n c) n xs) : Rd w w.heap.size 1 (some ⟨g, 0, none⟩) n xs := by
  obtain ⟨A, c', e, hr, -⟩ := Sl.of_own h
  injection e with e1 e2 e3
  rw [e1]
  exact hr
/-- The row of a line is put. -/
theorem put_line (x : Wld) (D : List Rw) (y : Lin) (A : Option Addr) (c n : Nat) (W : World) {base g : Nat} (hA : A = some ⟨g, 0, none⟩) (h : W.ownsRow base 3 1 (.slice (some ⟨g, 0, none⟩) n c) n (#[Value.int .i64 y.cls, .int .i64 y.room, .int .i64 (y.offs.length : Int)].toList ++ ints y.offs ++ ints y.legs)) (hl : (lineR y).2.length = n) (hn : n ≤ 10000000) (hD : (shT x D).length ≤ 1000000000) :
    Calls Tryz.prog 25 #[.agg #[.string ⟨(shT x D).toArray⟩, .bool (shB D)], .string ⟨#[108, 105, 110, 101]⟩, .slice A n c] W (Ret (.agg #[.string ⟨(shT x (D ++ [lineR y])).toArray⟩, .bool (shB (D ++ [lineR y]))]) W) := by
  subst hA
  refine put_sh x D (lineR y) _ c n W ?_ hl hn hD
  have e : ints (lineR y).2 = #[Value.int .i64 y.cls, .int .i64 y.room, .int .i64 (y.offs.length : Int)].toList ++ ints y.offs ++ ints y.legs := by
    unfold lineR ints
    simp
  rw [e, hl]
  exact rd_own h
/-- A row that a slice of the call's own holds is put. -/
theorem put_own (x : Wld) (D : List Rw) (r : Rw) (A : Option Addr) (c n : Nat) (W : World) {base g : Nat} {xs : List Value} (hA : A = some ⟨g, 0, none⟩) (h : W.ownsRow base 3 1 (.slice (some ⟨g, 0, none⟩) n c) n xs) (he : ints r.2 = xs) (hl : r.2.length = n) (hn : n ≤ 10000000) (hD : (shT x D).length ≤ 1000000000) :
    Calls Tryz.prog 25 #[.agg #[.string ⟨(shT x D).toArray⟩, .bool (shB D)], .string ⟨(wordN r.1).toArray⟩, .slice A n c] W (Ret (.agg #[.string ⟨(shT x (D ++ [r])).toArray⟩, .bool (shB (D ++ [r]))]) W) := by
  subst hA
  refine put_sh x D r _ c n W ?_ hl hn hD
  rw [he, hl]
  exact rd_own h
theorem put_odr (x : Wld) (D D2 : List Rw) (y : Odr) (A : Option Addr) (c n : Nat) (W : World) {base g : Nat} {xs : List Value} (hA : A = some ⟨g, 0, none⟩) (h : W.ownsRow base 3 1 (.slice (some ⟨g, 0, none⟩) n c) n xs) (he : ints (odrR y).2 = xs) (hl : (odrR y).2.length = n) (hn : n ≤ 10000000) (hD : (shT x D).length ≤ 1000000000) (hDe : D ++ [odrR y] = D2) :
    Calls Tryz.prog 25 #[.agg #[.string ⟨(shT x D).toArray⟩, .bool (shB D)], .string ⟨#[111, 114, 100, 101, 114]⟩, .slice A n c] W (Ret (.agg #[.string ⟨(shT x D2).toArray⟩, .bool (shB D2)]) W) := by
  subst hDe
  exact put_own x D (odrR y) A c n W hA h he hl hn hD
set_option maxRecDepth 100000 in
set_option maxHeartbeats 16000000 in
theorem ref_print (s : WS) (x : Wld) (W : World) (hx : WldAt W W.heap.size s x) (hC : LinsC W W.heap.size s.al x.lines) (hs : x.small) (hby : ∀ d ∈ x.seed, d < 256) (hm : x.room ≤ 1000000000) :
    Calls Tryz.prog 11 #[.agg (s.cl x).toArray] W (Ret (.tuple #[.string ⟨(printV x).1.toArray⟩, .int .i64 (printV x).2]) W) := by
  have hYs : (s.cl x).toArray.size = 43 := wsCl_size hs.seed
  have BX := Blk.new W 35 (s.cl x).toArray _ rfl
  have hb := bAl (bRefl W) (.cells (s.cl x).toArray 35)
  have hx1 := (hx.below hb).more hb.size
  have LL : Hid (∀ w', Blk w' W.heap.size 35 (s.cl x).toArray → (Instr.loadAt 35 (.pointer (some ⟨W.heap.size, 0, none⟩))).run Tryz.prog w' = .ok (.agg (s.cl x).toArray) w') := Lib.hid (fun w' B => load_blk B Tryz.underlying35 rfl (by rw [hYs]; exact world_info))
  have SD : Hid (∀ w', Blk w' W.heap.size 35 (s.cl x).toArray → (Instr.loadAt 32 (.pointer (some ⟨W.heap.size, 10, none⟩))).run Tryz.prog w' = .ok (.agg (byts x.seed).toArray) w') := Lib.hid (fun w' h => ws_seed hs.seed h)
  have q0 : Hid (∀ w', Below W.heap.size W w' → Calls Tryz.prog 21 #[.agg (s.cl x).toArray] w' (Ret (.int .i64 (postE x)) w')) := Lib.hid (fun w' b => ref_check s x w' ((hx.below b).more b.size) ((hC.below b).more b.size) hs)
  have KC : Hid (∀ w', Blk w' W.heap.size 35 (s.cl x).toArray → (w'.cell? ⟨W.heap.size, 0, none⟩ = some (.int .i64 x.offs) ∧ w'.cell? ⟨W.heap.size, 1, none⟩ = some (.slice s.al x.lines.length s.cl_) ∧ w'.cell? ⟨W.heap.size, 2, none⟩ = some (.slice s.ab x.base.length s.cb) ∧ w'.cell? ⟨W.heap.size, 3, none⟩ = some (.slice s.ag x.leg.length s.cg) ∧ w'.cell? ⟨W.heap.size, 4, none⟩ = some (.slice s.at_ x.tiers.length s.ct) ∧ w'.cell? ⟨W.heap.size, 5, none⟩ = some (.slice s.ao x.orders.length s.co) ∧ w'.cell? ⟨W.heap.size, 6, none⟩ = some (.int .i64 x.people) ∧ w'.cell? ⟨W.heap.size, 7, none⟩ = some (.slice s.ae x.ents.length s.ce) ∧ w'.cell? ⟨W.heap.size, 8, none⟩ = some (.int .i64 x.covers) ∧ w'.cell? ⟨W.heap.size, 9, none⟩ = some (.slice s.as_ x.secs.length s.cs) ∧ w'.cell? ⟨W.heap.size, 42, none⟩ = some (.slice s.af x.faults.length s.cf))) := Lib.hid (fun w' B =>
    ⟨B.cell 0, B.cell 1, B.cell 2, B.cell 3, B.cell 4, B.cell 5, B.cell 6, B.cell 7, B.cell 8, B.cell 9, by rw [B.cell 42, ws_last hs.seed]⟩)
  obtain ⟨rt, hrt⟩ : ∃ rt : By × Int, Hid (printV x = rt) := ⟨_, Lib.hid rfl⟩
  rw [hrt.out]
  have hbad : Hid (postE x ≠ 0 → rt = ([], postE x)) := Lib.hid (fun h => by rw [← hrt.out]; unfold printV; rw [if_neg h])
  have hhd : Hid (postE x = 0 → okHead x = false → rt = ([], 590)) := Lib.hid (fun h h2 => by rw [← hrt.out]; exact sh_head h2 h)
  have hgo : Hid (postE x = 0 → okHead x = true → (shB x.rows = true → rt = ([], 590)) ∧ (shB x.rows = false → rt = (shT x x.rows, 0))) := Lib.hid (fun h h2 => ⟨fun h3 => by rw [← hrt.out, sh_end h2 h, if_pos h3], fun h3 => by rw [← hrt.out, sh_end h2 h, if_neg (by rw [h3]; decide)]⟩)
  have hrows : Hid (postE x = 0 → x.base.length = x.leg.length) := Lib.hid (fun h => by
    unfold postE at h
    split at h
    · split at h
      · rename_i h2
        unfold tariffE at h2
        split at h2
        · rename_i h3
          rw [Bool.and_eq_true] at h3
          exact of_decide_eq_true h3.1
        · cases h2
      · rename_i h2; exact absurd h h2
    · rename_i h1; exact absurd h h1)
  generalize postE x = E at *
  have KX := Lib.hid (And.intro hx1 (And.intro hs hC))
  have hsd : Hid ((byts x.seed).length = 32) := Lib.hid (by rw [byts_length, hs.seed])
  have hs32 := Lib.hid hs.seed
  generalize (s.cl x).toArray = Y at *
  clear hx hx1 hC hrt hYs
  go_enter Tryz.func11, Tryz.ntmps11
  go_upto_region 1 with fail
  generalize W.alloc (.cells Y 35) = w1 at *
  apply wp_region_lit
  refine wpList_loadG (by rfl) (by rfl) (by rfl) (LL.out _ BX) ?_
  simp only [Act.put]
  have q := q0.out _ hb
  clear q0 LL
  by_cases h0 : E = 0
  case neg =>
    have hr := Lib.hid (hbad.out h0)
    have g1 : (E != 0) = true := by simp only [bne_iff_ne, ne_eq]; exact h0
    clear hbad hhd hgo hrows h0
    obtain rfl := hr.out
    go_wp2_with (go_at_call 21; (with_reducible refine q.mono ?_); rintro e w2 ⟨rfl, b2⟩)
    go_ret2
    exact ⟨rfl, bCall hb b2⟩
  have hhd2 := Lib.hid (hhd.out h0)
  have hgo2 := Lib.hid (hgo.out h0)
  have hrows2 := Lib.hid (hrows.out h0)
  subst h0
  clear hbad hhd hgo hrows
  go_upto_region 4 with (go_at_call 21; (with_reducible refine q.mono ?_); rintro e w2 ⟨rfl, b2⟩)
  have hb2 := bCall hb b2
  have BX2 := BX.below b2 BX.lt
  have KX2 := Lib.hid (And.intro ((KX.out.1.below b2).more b2.size) (And.intro KX.out.2.1 ((KX.out.2.2.below hb2).more hb2.size)))
  clear q BX KX hb b2
  have hW2 := BX2.lt
  have p1 := rp_in x.people w2
  have p2 := rp_in x.covers w2
  have p3 := rp_in x.offs w2
  have hoh : Hid (okHead x = (okN x.people && (okN x.covers && okN x.offs))) := Lib.hid rfl
  have hn1 := Lib.hid (fun h => itB_len (n := x.people) h)
  have hn2 := Lib.hid (fun h => itB_len (n := x.covers) h)
  have hn3 := Lib.hid (fun h => itB_len (n := x.offs) h)
  obtain ⟨d0, d1, d2, d3, d4, d5, d6, d7, d8, d9, d42⟩ := KC.out _ BX2
  clear d1 d2 d3 d4 d5 d7 d9 d42
  have r1 := Lib.hid (fun h w => ra_num x.people h w)
  have r2 := Lib.hid (fun h w => ra_num x.covers h w)
  have r3 := Lib.hid (fun h w => ra_num x.offs h w)
  generalize okN x.people = o1 at *
  generalize okN x.covers = o2 at *
  generalize okN x.offs = o3 at *
  cases o1 with
  | false =>
    have hr := Lib.hid (hhd2.out (by rw [hoh.out]; simp))
    clear hhd2 hgo2 hoh
    obtain rfl := hr.out
    go_wp2_with (go_at_call 22; first | ((with_reducible refine p1.mono ?_); rintro e w6 ⟨rfl, rfl⟩) | ((with_reducible refine p2.mono ?_); rintro e w6 ⟨rfl, rfl⟩) | ((with_reducible refine p3.mono ?_); rintro e w6 ⟨rfl, rfl⟩))
    go_ret2
    exact ⟨rfl, hb2⟩
  | true =>
  cases o2 with
  | false =>
    have hr := Lib.hid (hhd2.out (by rw [hoh.out]; simp))
    clear hhd2 hgo2 hoh
    obtain rfl := hr.out
    go_wp2_with (go_at_call 22; first | ((with_reducible refine p1.mono ?_); rintro e w6 ⟨rfl, rfl⟩) | ((with_reducible refine p2.mono ?_); rintro e w6 ⟨rfl, rfl⟩) | ((with_reducible refine p3.mono ?_); rintro e w6 ⟨rfl, rfl⟩))
    go_ret2
    exact ⟨rfl, hb2⟩
  | true =>
  cases o3 with
  | false =>
    have hr := Lib.hid (hhd2.out (by rw [hoh.out]; simp))
    clear hhd2 hgo2 hoh
    obtain rfl := hr.out
    go_wp2_with (go_at_call 22; first | ((with_reducible refine p1.mono ?_); rintro e w6 ⟨rfl, rfl⟩) | ((with_reducible refine p2.mono ?_); rintro e w6 ⟨rfl, rfl⟩) | ((with_reducible refine p3.mono ?_); rintro e w6 ⟨rfl, rfl⟩))
    go_ret2
    exact ⟨rfl, hb2⟩
  | true =>
  have hgo3 := Lib.hid (hgo2.out (by rw [hoh.out]; rfl))
  have hok : Hid (okHead x = true) := Lib.hid (by rw [hoh.out]; rfl)
  clear hhd2 hgo2 hoh
  go_upto_region 6 with (go_at_call 22; first | ((with_reducible refine p1.mono ?_); rintro e w6 ⟨rfl, rfl⟩) | ((with_reducible refine p2.mono ?_); rintro e w6 ⟨rfl, rfl⟩) | ((with_reducible refine p3.mono ?_); rintro e w6 ⟨rfl, rfl⟩))
  clear p1 p2 p3 d0 d6 d8
  have h14a := hn1.out trivial
  have h14b := hn2.out trivial
  have h14c := hn3.out trivial
  have hhl : (hexT x.seed).length = 64 := by rw [hexT_len, hs32.out]
  have q4 := Lib.hid (fun w => rp_seed x.seed w hs32.out hby)
  generalize byts x.seed = SB at *
  have hdu := Tryz.underlying32
  have hdi : (Tryz.prog.info? 32).map (·.size) = some SB.length := by rw [hsd.out]; kernel_rfl
  have KS : Hid (∀ w', Below w2.heap.size w2 w' → w'.cell? ⟨W.heap.size, 6, none⟩ = some (.int .i64 x.people) ∧ w'.cell? ⟨W.heap.size, 8, none⟩ = some (.int .i64 x.covers) ∧ w'.cell? ⟨W.heap.size, 0, none⟩ = some (.int .i64 x.offs) ∧ (Instr.loadAt 32 (.pointer (some ⟨W.heap.size, 10, none⟩))).run Tryz.prog w' = .ok (.agg SB.toArray) w') := Lib.hid (fun w' b => by
    have B := BX2.below b BX2.lt
    have k := KC.out w' B
    exact ⟨k.2.2.2.2.2.2.1, k.2.2.2.2.2.2.2.2.1, k.1, SD.out w' B⟩)
  have hHT : Hid (headT x = [119, 111, 114, 108, 100, 32] ++ itB x.people ++ [32] ++ itB x.covers ++ [32] ++ itB x.offs ++ [32] ++ hexT x.seed ++ [10]) := Lib.hid (by unfold headT wWorld numsT; simp [numT])
  generalize hexT x.seed = hx4 at *
  generalize itB x.people = n1 at *
  generalize itB x.covers = n2 at *
  generalize itB x.offs = n3 at *
  have e9 : ((((((((⟨#[119, 111, 114, 108, 100, 32]⟩ ++ ⟨n1.toArray⟩) ++ ⟨#[32]⟩) ++ ⟨n2.toArray⟩) ++ ⟨#[32]⟩) ++ ⟨n3.toArray⟩) ++ ⟨#[32]⟩) ++ ⟨hx4.toArray⟩) ++ ⟨#[10]⟩ : ByteArray) = ⟨(headT x).toArray⟩ := by
    rw [show (⟨#[119, 111, 114, 108, 100, 32]⟩ : ByteArray) = ⟨([119, 111, 114, 108, 100, 32] : By).toArray⟩ from rfl, show (⟨#[32]⟩ : ByteArray) = ⟨([32] : By).toArray⟩ from rfl, show (⟨#[10]⟩ : ByteArray) = ⟨([10] : By).toArray⟩ from rfl]
    rw [cat_by, cat_by, cat_by, cat_by, cat_by, cat_by, cat_by, cat_by, hHT.out]
  have l1 : ¬ 9223372036854775807 < 6 + n1.length := by omega
  have l2 : ¬ 9223372036854775807 < 6 + n1.length + 1 := by omega
  have l3 : ¬ 9223372036854775807 < 6 + n1.length + 1 + n2.length := by omega
  have l4 : ¬ 9223372036854775807 < 6 + n1.length + 1 + n2.length + 1 := by omega
  have l5 : ¬ 9223372036854775807 < 6 + n1.length + 1 + n2.length + 1 + n3.length := by omega
  have l6 : ¬ 9223372036854775807 < 6 + n1.length + 1 + n2.length + 1 + n3.length + 1 := by omega
  have l7 : ¬ 9223372036854775807 < 6 + n1.length + 1 + n2.length + 1 + n3.length + 1 + hx4.length := by omega
  have l8 : ¬ 9223372036854775807 < 6 + n1.length + 1 + n2.length + 1 + n3.length + 1 + hx4.length + 1 := by omega
  generalize hHB : (⟨(headT x).toArray⟩ : ByteArray) = HB at *
  have KK := Lib.hid hHB
  clear hHB h14a h14b h14c hn1 hn2 hn3 hhl
  go_cut [5] from 41 to 62 (fun s5 wc => ∃ P, s5 = .pointer (some ⟨P, 0, none⟩) ∧ w2.heap.size ≤ P ∧ Blk wc P 83 #[.string HB, .bool false] ∧ Below w2.heap.size w2 wc)
  case first =>
    -- <<
    rename_i J K1 hJ hK1
    refine wp_region_schU (fun w' => w'.cell? ⟨W.heap.size, 6, none⟩ = some (.int .i64 x.people) ∧ w'.cell? ⟨W.heap.size, 8, none⟩ = some (.int .i64 x.covers) ∧ w'.cell? ⟨W.heap.size, 0, none⟩ = some (.int .i64 x.offs) ∧ (Instr.loadAt 32 (.pointer (some ⟨W.heap.size, 10, none⟩))).run Tryz.prog w' = .ok (.agg SB.toArray) w') 23 15 [(0, 1), (1, 2), (5, 1), (6, 2), (10, 1), (11, 1), (12, 2), (16, 1), (17, 2)] (KS.out _ (bDr (bRefl w2))) ?_
    simp only [pickS, List.getElem?_cons_zero, List.getElem?_cons_succ]
    refine wpSchedU_t ?_
    refine wpSchedU_r ?_
    refine wpSchedU_t ?_
    refine wpSchedU_r ?_
    refine wpSchedU_t ?_
    refine wpSchedU_t ?_
    refine wpSchedU_r ?_
    refine wpSchedU_t ?_
    refine wpSchedU_r (v := ?vq1) (hv := ?hq1) ?_; case hq1 => (intro w hSw; refine (exec_load rfl rfl hSw.2.2.2).trans ?_; with_reducible rfl)
    have B7 := bDr (bRefl w2)
    generalize w2.drew = wD at *
    refine anyU_two (i := 2) (j := 22) ⟨_, rfl, fun K hK => ?_⟩ ⟨_, rfl, fun K hK => ?_⟩
    · skip
      go_simp; go_at_call 23; (with_reducible refine (r1.out trivial _).mono ?_); rintro e w7 ⟨rfl, b7⟩
      replace B7 := bCall B7 b7
      clear b7
      refine shut_go hK KS ?_
      clear hK K
      refine anyU_rest (g := 12) [(3, 1), (4, 1)] (by intro _; exact KS.out _ B7) ?_
      simp only [pickS, List.getElem?_cons_zero, List.getElem?_cons_succ]
      refine wpSchedU_t ?_
      refine wpSchedU_t ?_
      refine anyU_two (i := 7) (j := 22) ⟨_, rfl, fun K hK => ?_⟩ ⟨_, rfl, fun K hK => ?_⟩
      · skip
        go_simp; go_at_call 23; (with_reducible refine (r2.out trivial _).mono ?_); rintro e w7 ⟨rfl, b7⟩
        replace B7 := bCall B7 b7
        clear b7
        refine shut_go hK KS ?_
        clear hK K
        refine anyU_rest (g := 9) [(8, 1), (9, 1)] (by intro _; exact KS.out _ B7) ?_
        simp only [pickS, List.getElem?_cons_zero, List.getElem?_cons_succ]
        refine wpSchedU_t ?_
        refine wpSchedU_t ?_
        refine anyU_two (i := 13) (j := 22) ⟨_, rfl, fun K hK => ?_⟩ ⟨_, rfl, fun K hK => ?_⟩
        · skip
          go_simp; go_at_call 23; (with_reducible refine (r3.out trivial _).mono ?_); rintro e w7 ⟨rfl, b7⟩
          replace B7 := bCall B7 b7
          clear b7
          refine shut_go hK KS ?_
          clear hK K
          refine anyU_rest (g := 6) [(14, 1), (15, 1)] (by intro _; exact KS.out _ B7) ?_
          simp only [pickS, List.getElem?_cons_zero, List.getElem?_cons_succ]
          refine wpSchedU_t ?_
          refine wpSchedU_t ?_
          refine anyU_two (i := 18) (j := 22) ⟨_, rfl, fun K hK => ?_⟩ ⟨_, rfl, fun K hK => ?_⟩
          · skip
            go_simp; go_at_call 24; (with_reducible refine (q4.out _).mono ?_); rintro e w7 ⟨rfl, b7⟩
            replace B7 := bCall B7 b7
            clear b7
            refine shut_go hK KS ?_
            clear hK K
            refine anyU_rest (g := 2) [(19, 1), (20, 1), (21, 1)] (by intro _; exact KS.out _ B7) ?_
            simp only [pickS, List.getElem?_cons_zero, List.getElem?_cons_succ]
            refine wpSchedU_t ?_
            refine wpSchedU_t ?_
            refine wpSchedU_t ?_
            refine anyU_one (i := 22) ⟨_, rfl, fun K hK => ?_⟩
            go_simp
            have hP := B7.size
            have BZ := Blk.new w7 83 #[.string ⟨#[]⟩, .bool false] _ rfl
            replace B7 := bAl B7 (.cells #[.string ⟨#[]⟩, .bool false] 83)
            refine shut_go hK KS ?_
            clear hK K
            generalize w7.alloc (.cells #[.string ⟨#[]⟩, .bool false] 83) = wA at *
            have z0 := BZ.cell 0; have z1 := BZ.cell 1; have f0 := BZ.frozen 0; have f1 := BZ.frozen 1
            refine anyU_list [(23, 3)] ?_
            simp only [pickS, List.getElem?_cons_zero, List.getElem?_cons_succ, List.map_cons, List.map_nil]
            go_wp2_with fail
            refine NoPanic.normal ?_
            refine hK1 _ _ (hJ _ _ ?_)
            (repeat apply Exists.intro)
            refine ⟨?_, rfl⟩
            exact ⟨_, rfl, hP, (BZ.set_ 0 (.string HB)).set_ 1 (.bool false), bSet (bSet B7 hP (.string HB)) hP (.bool false)⟩
          · skip
            go_simp
            have hP := B7.size
            have BZ := Blk.new w7 83 #[.string ⟨#[]⟩, .bool false] _ rfl
            replace B7 := bAl B7 (.cells #[.string ⟨#[]⟩, .bool false] 83)
            refine shut_go hK KS ?_
            clear hK K
            generalize w7.alloc (.cells #[.string ⟨#[]⟩, .bool false] 83) = wA at *
            refine anyU_rest (g := 1) [(18, 0), (19, 1), (20, 1), (21, 1)] (by intro _; exact KS.out _ B7) ?_
            simp only [pickS, List.getElem?_cons_zero, List.getElem?_cons_succ]
            refine wpSchedU_force (fun K hK => ?_)
            go_simp; go_at_call 24; (with_reducible refine (q4.out _).mono ?_); rintro e w7 ⟨rfl, b7⟩
            replace BZ := BZ.below b7 BZ.lt
            replace B7 := bCall B7 b7
            clear b7
            refine shut_go hK KS ?_
            clear hK K
            refine wpSchedU_t ?_
            refine wpSchedU_t ?_
            refine wpSchedU_t ?_
            have z0 := BZ.cell 0; have z1 := BZ.cell 1; have f0 := BZ.frozen 0; have f1 := BZ.frozen 1
            refine anyU_list [(23, 3)] ?_
            simp only [pickS, List.getElem?_cons_zero, List.getElem?_cons_succ, List.map_cons, List.map_nil]
            go_wp2_with fail
            refine NoPanic.normal ?_
            refine hK1 _ _ (hJ _ _ ?_)
            (repeat apply Exists.intro)
            refine ⟨?_, rfl⟩
            exact ⟨_, rfl, hP, (BZ.set_ 0 (.string HB)).set_ 1 (.bool false), bSet (bSet B7 hP (.string HB)) hP (.bool false)⟩
        · skip
          go_simp
          have hP := B7.size
          have BZ := Blk.new w7 83 #[.string ⟨#[]⟩, .bool false] _ rfl
          replace B7 := bAl B7 (.cells #[.string ⟨#[]⟩, .bool false] 83)
          refine shut_go hK KS ?_
          clear hK K
          generalize w7.alloc (.cells #[.string ⟨#[]⟩, .bool false] 83) = wA at *
          refine anyU_rest (g := 1) [(13, 0), (14, 1), (15, 1), (18, 0), (19, 1), (20, 1), (21, 1)] (by intro _; exact KS.out _ B7) ?_
          simp only [pickS, List.getElem?_cons_zero, List.getElem?_cons_succ]
          refine wpSchedU_force (fun K hK => ?_)
          go_simp; go_at_call 23; (with_reducible refine (r3.out trivial _).mono ?_); rintro e w7 ⟨rfl, b7⟩
          replace BZ := BZ.below b7 BZ.lt
          replace B7 := bCall B7 b7
          clear b7
          refine shut_go hK KS ?_
          clear hK K
          refine wpSchedU_t ?_
          refine wpSchedU_t ?_
          refine wpSchedU_force (fun K hK => ?_)
          go_simp; go_at_call 24; (with_reducible refine (q4.out _).mono ?_); rintro e w7 ⟨rfl, b7⟩
          replace BZ := BZ.below b7 BZ.lt
          replace B7 := bCall B7 b7
          clear b7
          refine shut_go hK KS ?_
          clear hK K
          refine wpSchedU_t ?_
          refine wpSchedU_t ?_
          refine wpSchedU_t ?_
          have z0 := BZ.cell 0; have z1 := BZ.cell 1; have f0 := BZ.frozen 0; have f1 := BZ.frozen 1
          refine anyU_list [(23, 3)] ?_
          simp only [pickS, List.getElem?_cons_zero, List.getElem?_cons_succ, List.map_cons, List.map_nil]
          go_wp2_with fail
          refine NoPanic.normal ?_
          refine hK1 _ _ (hJ _ _ ?_)
          (repeat apply Exists.intro)
          refine ⟨?_, rfl⟩
          exact ⟨_, rfl, hP, (BZ.set_ 0 (.string HB)).set_ 1 (.bool false), bSet (bSet B7 hP (.string HB)) hP (.bool false)⟩
      · skip
        go_simp
        have hP := B7.size
        have BZ := Blk.new w7 83 #[.string ⟨#[]⟩, .bool false] _ rfl
        replace B7 := bAl B7 (.cells #[.string ⟨#[]⟩, .bool false] 83)
        refine shut_go hK KS ?_
        clear hK K
        generalize w7.alloc (.cells #[.string ⟨#[]⟩, .bool false] 83) = wA at *
        refine anyU_rest (g := 1) [(7, 0), (8, 1), (9, 1), (13, 0), (14, 1), (15, 1), (18, 0), (19, 1), (20, 1), (21, 1)] (by intro _; exact KS.out _ B7) ?_
        simp only [pickS, List.getElem?_cons_zero, List.getElem?_cons_succ]
        refine wpSchedU_force (fun K hK => ?_)
        go_simp; go_at_call 23; (with_reducible refine (r2.out trivial _).mono ?_); rintro e w7 ⟨rfl, b7⟩
        replace BZ := BZ.below b7 BZ.lt
        replace B7 := bCall B7 b7
        clear b7
        refine shut_go hK KS ?_
        clear hK K
        refine wpSchedU_t ?_
        refine wpSchedU_t ?_
        refine wpSchedU_force (fun K hK => ?_)
        go_simp; go_at_call 23; (with_reducible refine (r3.out trivial _).mono ?_); rintro e w7 ⟨rfl, b7⟩
        replace BZ := BZ.below b7 BZ.lt
        replace B7 := bCall B7 b7
        clear b7
        refine shut_go hK KS ?_
        clear hK K
        refine wpSchedU_t ?_
        refine wpSchedU_t ?_
        refine wpSchedU_force (fun K hK => ?_)
        go_simp; go_at_call 24; (with_reducible refine (q4.out _).mono ?_); rintro e w7 ⟨rfl, b7⟩
        replace BZ := BZ.below b7 BZ.lt
        replace B7 := bCall B7 b7
        clear b7
        refine shut_go hK KS ?_
        clear hK K
        refine wpSchedU_t ?_
        refine wpSchedU_t ?_
        refine wpSchedU_t ?_
        have z0 := BZ.cell 0; have z1 := BZ.cell 1; have f0 := BZ.frozen 0; have f1 := BZ.frozen 1
        refine anyU_list [(23, 3)] ?_
        simp only [pickS, List.getElem?_cons_zero, List.getElem?_cons_succ, List.map_cons, List.map_nil]
        go_wp2_with fail
        refine NoPanic.normal ?_
        refine hK1 _ _ (hJ _ _ ?_)
        (repeat apply Exists.intro)
        refine ⟨?_, rfl⟩
        exact ⟨_, rfl, hP, (BZ.set_ 0 (.string HB)).set_ 1 (.bool false), bSet (bSet B7 hP (.string HB)) hP (.bool false)⟩
    · skip
      go_simp
      have hP := B7.size
      have BZ := Blk.new wD 83 #[.string ⟨#[]⟩, .bool false] _ rfl
      replace B7 := bAl B7 (.cells #[.string ⟨#[]⟩, .bool false] 83)
      refine shut_go hK KS ?_
      clear hK K
      generalize wD.alloc (.cells #[.string ⟨#[]⟩, .bool false] 83) = wA at *
      refine anyU_rest (g := 1) [(2, 0), (3, 1), (4, 1), (7, 0), (8, 1), (9, 1), (13, 0), (14, 1), (15, 1), (18, 0), (19, 1), (20, 1), (21, 1)] (by intro _; exact KS.out _ B7) ?_
      simp only [pickS, List.getElem?_cons_zero, List.getElem?_cons_succ]
      refine wpSchedU_force (fun K hK => ?_)
      go_simp; go_at_call 23; (with_reducible refine (r1.out trivial _).mono ?_); rintro e w7 ⟨rfl, b7⟩
      replace BZ := BZ.below b7 BZ.lt
      replace B7 := bCall B7 b7
      clear b7
      refine shut_go hK KS ?_
      clear hK K
      refine wpSchedU_t ?_
      refine wpSchedU_t ?_
      refine wpSchedU_force (fun K hK => ?_)
      go_simp; go_at_call 23; (with_reducible refine (r2.out trivial _).mono ?_); rintro e w7 ⟨rfl, b7⟩
      replace BZ := BZ.below b7 BZ.lt
      replace B7 := bCall B7 b7
      clear b7
      refine shut_go hK KS ?_
      clear hK K
      refine wpSchedU_t ?_
      refine wpSchedU_t ?_
      refine wpSchedU_force (fun K hK => ?_)
      go_simp; go_at_call 23; (with_reducible refine (r3.out trivial _).mono ?_); rintro e w7 ⟨rfl, b7⟩
      replace BZ := BZ.below b7 BZ.lt
      replace B7 := bCall B7 b7
      clear b7
      refine shut_go hK KS ?_
      clear hK K
      refine wpSchedU_t ?_
      refine wpSchedU_t ?_
      refine wpSchedU_force (fun K hK => ?_)
      go_simp; go_at_call 24; (with_reducible refine (q4.out _).mono ?_); rintro e w7 ⟨rfl, b7⟩
      replace BZ := BZ.below b7 BZ.lt
      replace B7 := bCall B7 b7
      clear b7
      refine shut_go hK KS ?_
      clear hK K
      refine wpSchedU_t ?_
      refine wpSchedU_t ?_
      refine wpSchedU_t ?_
      have z0 := BZ.cell 0; have z1 := BZ.cell 1; have f0 := BZ.frozen 0; have f1 := BZ.frozen 1
      refine anyU_list [(23, 3)] ?_
      simp only [pickS, List.getElem?_cons_zero, List.getElem?_cons_succ, List.map_cons, List.map_nil]
      go_wp2_with fail
      refine NoPanic.normal ?_
      refine hK1 _ _ (hJ _ _ ?_)
      (repeat apply Exists.intro)
      refine ⟨?_, rfl⟩
      exact ⟨_, rfl, hP, (BZ.set_ 0 (.string HB)).set_ 1 (.bool false), bSet (bSet B7 hP (.string HB)) hP (.bool false)⟩
    -- >>
  case rest =>
    obtain ⟨P, rfl, hP, BT6, hb6⟩ := hcut
    generalize wc = w6 at *
    have KK2 := KK
    clear e9 l1 l2 l3 l4 l5 l6 l7 l8 KS hHT KK
    have KK : Hid (HB = ⟨(shT x []).toArray⟩ ∧ false = shB []) := Lib.hid ⟨by rw [← KK2.out]; unfold shT; simp, rfl⟩
    clear KK2
    obtain ⟨hx2, hs, hC2⟩ := KX2.out
    have hrb := hx2.rb
    have hrg := hx2.rg
    have hrt := hx2.rt
    have hre := hx2.re
    have hrs := hx2.rs
    have hrf := hx2.rf
    obtain ⟨la, la1, la2, la3⟩ := hC2
    obtain ⟨va, va1, va2, va3⟩ := hx2.ro
    have hB2 := Lib.hid hb2
    clear hx2 KX2 hb2
    obtain ⟨al, ab, ag, at_, ao, ae, as_, af, cl_, cb, cg, ct, co, ce, cs, cf⟩ := s
    simp only at KC hrb hrg hrt hre hrs hrf la2 va2
    have hn0 := hs.lines
    have hn1 := hs.base
    have hn2 := hs.leg
    have hn3 := hs.tiers
    have hn4 := hs.orders
    have hn5 := hs.ents
    have hn6 := hs.secs
    have hn7 := hs.faults
    have hsp0 : Hid (x.rows = ([]) ++ ((x.base.zip x.leg).map clsR ++ (x.tiers.map tieR ++ (x.lines.flatMap linR ++ (x.orders.map odrR ++ (x.ents.map entR ++ (x.secs.map secR ++ (x.faults.map slpR ++ (([])))))))))) := Lib.hid (by unfold Wld.rows; simp)
    have hsp1 : Hid (x.rows = ((x.base.zip x.leg).map clsR) ++ (x.tiers.map tieR ++ (x.lines.flatMap linR ++ (x.orders.map odrR ++ (x.ents.map entR ++ (x.secs.map secR ++ (x.faults.map slpR ++ (([]))))))))) := Lib.hid (by unfold Wld.rows; simp)
    have hsp2 : Hid (x.rows = (((x.base.zip x.leg).map clsR) ++ x.tiers.map tieR) ++ (x.lines.flatMap linR ++ (x.orders.map odrR ++ (x.ents.map entR ++ (x.secs.map secR ++ (x.faults.map slpR ++ (([])))))))) := Lib.hid (by unfold Wld.rows; simp)
    have hsp3 : Hid (x.rows = ((((x.base.zip x.leg).map clsR) ++ x.tiers.map tieR) ++ x.lines.flatMap linR) ++ (x.orders.map odrR ++ (x.ents.map entR ++ (x.secs.map secR ++ (x.faults.map slpR ++ (([]))))))) := Lib.hid (by unfold Wld.rows; simp)
    have hsp4 : Hid (x.rows = (((((x.base.zip x.leg).map clsR) ++ x.tiers.map tieR) ++ x.lines.flatMap linR) ++ x.orders.map odrR) ++ (x.ents.map entR ++ (x.secs.map secR ++ (x.faults.map slpR ++ (([])))))) := Lib.hid (by unfold Wld.rows; simp)
    have hsp5 : Hid (x.rows = ((((((x.base.zip x.leg).map clsR) ++ x.tiers.map tieR) ++ x.lines.flatMap linR) ++ x.orders.map odrR) ++ x.ents.map entR) ++ (x.secs.map secR ++ (x.faults.map slpR ++ (([]))))) := Lib.hid (by unfold Wld.rows; simp)
    have hsp6 : Hid (x.rows = (((((((x.base.zip x.leg).map clsR) ++ x.tiers.map tieR) ++ x.lines.flatMap linR) ++ x.orders.map odrR) ++ x.ents.map entR) ++ x.secs.map secR) ++ (x.faults.map slpR ++ (([])))) := Lib.hid (by unfold Wld.rows; simp)
    have t0 : w6.cell? ⟨W.heap.size, 2, none⟩ = some (.slice ab x.base.length cb) := (KC.out _ (BX2.below hb6 BX2.lt)).2.2.1
    go_wp2_with fail
    go_loopw [6] (fun i wr => ∃ (k : Nat) (D : List Rw), k ≤ x.base.length ∧ i = .int .i64 k ∧ Hid (D = ([]) ++ ((x.base.zip x.leg).take k).map clsR) ∧ Blk wr P 83 #[.string ⟨(shT x D).toArray⟩, .bool (shB D)] ∧ Below w2.heap.size w2 wr) (fun i _ => x.base.length - (intOf i).toNat)
    case atStart => exact ⟨0, [], Nat.zero_le _, rfl, Lib.hid (by simp), by rw [← KK.out.1, ← KK.out.2]; exact BT6, hb6⟩
    case round =>
      clear t0 BT6 hb6
      obtain ⟨k, D, hkn, rfl, hD, BT, hb⟩ := hrel
      have t0 : wr.cell? ⟨W.heap.size, 2, none⟩ = some (.slice ab x.base.length cb) := (KC.out _ (BX2.below hb BX2.lt)).2.2.1
      have t1 : wr.cell? ⟨W.heap.size, 3, none⟩ = some (.slice ag x.leg.length cg) := (KC.out _ (BX2.below hb BX2.lt)).2.2.2.1
      have x0 := BT.cell 0
      have x1 := BT.cell 1
      by_cases hlt : k < x.base.length
      · skip
        obtain ⟨u, hu⟩ : ∃ y, Hid (x.base[k]? = some y) := ⟨_, Lib.hid (List.getElem?_eq_getElem hlt)⟩
        obtain ⟨v, hv⟩ : ∃ y, Hid (x.leg[k]? = some y) := ⟨_, Lib.hid (List.getElem?_eq_getElem (by have := hrows2.out; omega))⟩
        have hy : Hid ((x.base.zip x.leg)[k]? = some (u, v)) := Lib.hid (by rw [List.getElem?_zip_eq_some]; exact ⟨hu.out, hv.out⟩)
        obtain ⟨b1, o1, rfl, l1, hc1⟩ := (hrb.below hb).2 (by omega)
        obtain ⟨b2, o2, rfl, l2, hc2⟩ := (hrg.below hb).2 (by have := hrows2.out; omega)
        have c0 := hc1 k _ (ints_at hu.out)
        have c1 := hc2 k _ (ints_at hv.out)
        have i0 : (0 : Int) ≤ (k : Int) := by omega
        have i1 : (k : Int) < (x.base.length : Int) := by omega
        have i2 : (k : Int) < (x.leg.length : Int) := by have := hrows2.out; omega
        have hr9 : Hid (x.rows = D ++ clsR (u, v) :: _) := Lib.hid (by rw [hD.out]; exact split_map hsp0.out hy.out)
        have hDl : (shT x D).length ≤ 1000000000 := shT_len hr9.out hok.out hs32.out hm
        have q : Calls Tryz.prog 25 #[.agg #[.string ⟨(shT x D).toArray⟩, .bool (shB D)], .string ⟨#[99, 108, 97, 115, 115]⟩, .slice (some ⟨wr.heap.size, 0, none⟩) 2 2] ((wr.alloc (.cells #[.int .i64 u, .int .i64 v] 3)).drew) _ := put_sh x D (clsR (u, v)) (some ⟨wr.heap.size, 0, none⟩) 2 2 ((wr.alloc (.cells #[.int .i64 u, .int .i64 v] 3)).drew) (rd_lit (Blk.new wr 3 #[.int .i64 u, .int .i64 v] _ rfl)) rfl (Nat.le_of_ble_eq_true rfl) hDl
        obtain ⟨D2, hDe⟩ : ∃ D2, Hid (D ++ [clsR (u, v)] = D2) := ⟨_, Lib.hid rfl⟩
        rw [hDe.out] at q
        have hD2 : Hid (D2 = ([]) ++ ((x.base.zip x.leg).take (k + 1)).map clsR) := Lib.hid (by rw [← hDe.out, take_map _ hy.out, hD.out])
        obtain ⟨s2, hs2⟩ : ∃ s2 : ByteArray, s2 = ⟨(shT x D2).toArray⟩ := ⟨_, rfl⟩
        obtain ⟨t2, ht2⟩ : ∃ t2, t2 = shB D2 := ⟨_, rfl⟩
        rw [← hs2, ← ht2] at q
        have KS : Hid (∀ w', Below wr.heap.size wr w' → w'.cell? ⟨P, 0, none⟩ = some (.string ⟨(shT x D).toArray⟩) ∧ w'.cell? ⟨P, 1, none⟩ = some (.bool (shB D)) ∧ w'.cell? ⟨W.heap.size, 2, none⟩ = some (.slice (some ⟨b1, o1, none⟩) x.base.length cb) ∧ w'.cell? ⟨W.heap.size, 3, none⟩ = some (.slice (some ⟨b2, o2, none⟩) x.leg.length cg) ∧ w'.cell? ⟨b1, o1 + k, none⟩ = some (.int .i64 u) ∧ w'.cell? ⟨b2, o2 + k, none⟩ = some (.int .i64 v)) := Lib.hid (fun w' b => ⟨(b.cell (p := ⟨P, 0, none⟩) BT.lt).trans x0, (b.cell (p := ⟨P, 1, none⟩) BT.lt).trans x1, (b.cell (p := ⟨W.heap.size, 2, none⟩) (BX2.below hb BX2.lt).lt).trans t0, (b.cell (p := ⟨W.heap.size, 3, none⟩) (BX2.below hb BX2.lt).lt).trans t1, (b.cell (p := ⟨b1, o1 + k, none⟩) (Nat.lt_of_lt_of_le l1 hb.size)).trans c0, (b.cell (p := ⟨b2, o2 + k, none⟩) (Nat.lt_of_lt_of_le l2 hb.size)).trans c1⟩)
        clear hc1 hc2 hu hv hy hr9 hDl
        go_upto_region 10 with fail
        refine wp_region_schB (f := 15) KS [(0, 2), (1, 1), (2, 1), (3, 2), (4, 1), (5, 1), (6, 2), (7, 1), (8, 1), (9, 2), (10, 1), (11, 1), (12, 2), (13, 0), (14, 0), (15, 3)] ?_
        simp only [pickS, List.getElem?_cons_zero, List.getElem?_cons_succ]
        refine wpSched_r ?_
        refine wpSched_t ?_
        refine wpSched_t ?_
        refine wpSched_r ?_
        refine wpSched_t ?_
        refine wpSched_t ?_
        refine wpSched_r ?_
        refine wpSched_t ?_
        refine wpSched_t ?_
        refine wpSched_r ?_
        refine wpSched_t ?_
        refine wpSched_t ?_
        refine wpSched_r ?_
        refine wpSched_force (fun K hK => ?_)
        go_simp; (first | (go_at_call 25; (with_reducible refine q.mono ?_); rintro e w5 ⟨rfl, b5⟩; have B5 : Below wr.heap.size wr w5 := bCall (bDr (bAl (bRefl _) _)) b5; have BT5 := BT.below B5 BT.lt; have z0 := BT5.cell 0; have z1 := BT5.cell 1; have f0 := BT5.frozen 0; have f1 := BT5.frozen 1) | skip)
        refine shut_go hK KS ?_
        clear hK K
        refine wpSched_force (fun K hK => ?_)
        go_simp; (first | (go_at_call 25; (with_reducible refine q.mono ?_); rintro e w5 ⟨rfl, b5⟩; have B5 : Below wr.heap.size wr w5 := bCall (bDr (bAl (bRefl _) _)) b5; have BT5 := BT.below B5 BT.lt; have z0 := BT5.cell 0; have z1 := BT5.cell 1; have f0 := BT5.frozen 0; have f1 := BT5.frozen 1) | skip)
        refine shut_go hK KS ?_
        clear hK K
        refine wpSched_last ?_
        first | simp only [List.map_nil] | simp only [List.map_cons, List.map_nil]
        clear KS
        go_wp2_with fail
        refine NoPanic.normal ?_
        go_wp2_with fail
        subst hs2; subst ht2
        exact ⟨⟨k + 1, D2, by omega, by go_num, hD2, (BT5.set_ 0 _).set_ 1 _, bSet (bSet (bCall hb B5) hP _) hP _⟩, by simp [intOf]; omega⟩
      · skip
        have hD9 : Hid (D = (x.base.zip x.leg).map clsR) := Lib.hid (by rw [hD.out, List.take_of_length_le (by rw [List.length_zip]; omega)]; simp)
        clear x0 x1
        clear t1
        have t9 : wr.cell? ⟨W.heap.size, 4, none⟩ = some (.slice at_ x.tiers.length ct) := (KC.out _ (BX2.below hb BX2.lt)).2.2.2.2.1
        go_wp2_with fail
        go_loopw [7] (fun i wr => ∃ (k : Nat) (D : List Rw), k ≤ x.tiers.length ∧ i = .int .i64 k ∧ Hid (D = ((x.base.zip x.leg).map clsR) ++ (x.tiers.take k).map tieR) ∧ Blk wr P 83 #[.string ⟨(shT x D).toArray⟩, .bool (shB D)] ∧ Below w2.heap.size w2 wr) (fun i _ => x.tiers.length - (intOf i).toNat)
        case atStart => exact ⟨0, D, Nat.zero_le _, rfl, Lib.hid (by have := hD9.out; rw [this]; simp), BT, hb⟩
        case round =>
          clear t0 t9 BT hb hD9 hD
          clear hkn hlt
          obtain ⟨k, D, hkn, rfl, hD, BT, hb⟩ := hrel
          have t0 : wr.cell? ⟨W.heap.size, 4, none⟩ = some (.slice at_ x.tiers.length ct) := (KC.out _ (BX2.below hb BX2.lt)).2.2.2.2.1
          have x0 := BT.cell 0
          have x1 := BT.cell 1
          by_cases hlt : k < x.tiers.length
          · skip
            obtain ⟨y, hy⟩ : ∃ y, Hid (x.tiers[k]? = some y) := ⟨_, Lib.hid (List.getElem?_eq_getElem hlt)⟩
            obtain ⟨b1, o1, rfl, l1, hc⟩ := Cl_at (f := Tie.cl) (fun _ _ => rfl) (hrt.below hb) hlt hy.out
            have c0 := hc 0 (by omega)
            have c1 := hc 1 (by omega)
            simp only [Tie.cl, List.getElem?_cons_zero, List.getElem?_cons_succ, Nat.add_zero] at c0 c1
            have i0 : (0 : Int) ≤ (k : Int) := by omega
            have i1 : (k : Int) < (x.tiers.length : Int) := by omega
            have hr9 : Hid (x.rows = D ++ tieR y :: _) := Lib.hid (by rw [hD.out]; exact split_map hsp1.out hy.out)
            have hDl : (shT x D).length ≤ 1000000000 := shT_len hr9.out hok.out hs32.out hm
            have q : Calls Tryz.prog 25 #[.agg #[.string ⟨(shT x D).toArray⟩, .bool (shB D)], .string ⟨#[116, 105, 101, 114]⟩, .slice (some ⟨wr.heap.size, 0, none⟩) 2 2] ((wr.alloc (.cells #[.int .i64 y.from_, .int .i64 y.extra] 3)).drew) _ := put_sh x D (tieR y) (some ⟨wr.heap.size, 0, none⟩) 2 2 ((wr.alloc (.cells #[.int .i64 y.from_, .int .i64 y.extra] 3)).drew) (rd_lit (Blk.new wr 3 #[.int .i64 y.from_, .int .i64 y.extra] _ rfl)) rfl (Nat.le_of_ble_eq_true rfl) hDl
            obtain ⟨D2, hDe⟩ : ∃ D2, Hid (D ++ [tieR y] = D2) := ⟨_, Lib.hid rfl⟩
            rw [hDe.out] at q
            have hD2 : Hid (D2 = ((x.base.zip x.leg).map clsR) ++ (x.tiers.take (k + 1)).map tieR) := Lib.hid (by rw [← hDe.out, take_map _ hy.out, hD.out])
            obtain ⟨s2, hs2⟩ : ∃ s2 : ByteArray, s2 = ⟨(shT x D2).toArray⟩ := ⟨_, rfl⟩
            obtain ⟨t2, ht2⟩ : ∃ t2, t2 = shB D2 := ⟨_, rfl⟩
            rw [← hs2, ← ht2] at q
            have KS : Hid (∀ w', Below wr.heap.size wr w' → w'.cell? ⟨P, 0, none⟩ = some (.string ⟨(shT x D).toArray⟩) ∧ w'.cell? ⟨P, 1, none⟩ = some (.bool (shB D)) ∧ w'.cell? ⟨W.heap.size, 4, none⟩ = some (.slice (some ⟨b1, o1, none⟩) x.tiers.length ct) ∧ w'.cell? ⟨b1, o1 + k * 2, none⟩ = some (.int .i64 y.from_) ∧ w'.cell? ⟨b1, o1 + k * 2 + 1, none⟩ = some (.int .i64 y.extra)) := Lib.hid (fun w' b => ⟨(b.cell (p := ⟨P, 0, none⟩) BT.lt).trans x0, (b.cell (p := ⟨P, 1, none⟩) BT.lt).trans x1, (b.cell (p := ⟨W.heap.size, 4, none⟩) (BX2.below hb BX2.lt).lt).trans t0, (b.cell (p := ⟨b1, o1 + k * 2, none⟩) (Nat.lt_of_lt_of_le l1 hb.size)).trans c0, (b.cell (p := ⟨b1, o1 + k * 2 + 1, none⟩) (Nat.lt_of_lt_of_le l1 hb.size)).trans c1⟩)
            clear hc hy hr9 hDl
            go_upto_region 14 with fail
            refine wp_region_schB (f := 17) KS [(0, 2), (1, 1), (2, 1), (3, 2), (4, 1), (5, 1), (6, 1), (7, 2), (8, 1), (9, 1), (10, 2), (11, 1), (12, 1), (13, 1), (14, 2), (15, 0), (16, 0), (17, 3)] ?_
            simp only [pickS, List.getElem?_cons_zero, List.getElem?_cons_succ]
            refine wpSched_r ?_
            refine wpSched_t ?_
            refine wpSched_t ?_
            refine wpSched_r ?_
            refine wpSched_t ?_
            refine wpSched_t ?_
            refine wpSched_t ?_
            refine wpSched_r ?_
            refine wpSched_t ?_
            refine wpSched_t ?_
            refine wpSched_r ?_
            refine wpSched_t ?_
            refine wpSched_t ?_
            refine wpSched_t ?_
            refine wpSched_r ?_
            refine wpSched_force (fun K hK => ?_)
            go_simp; (first | (go_at_call 25; (with_reducible refine q.mono ?_); rintro e w5 ⟨rfl, b5⟩; have B5 : Below wr.heap.size wr w5 := bCall (bDr (bAl (bRefl _) _)) b5; have BT5 := BT.below B5 BT.lt; have z0 := BT5.cell 0; have z1 := BT5.cell 1; have f0 := BT5.frozen 0; have f1 := BT5.frozen 1) | skip)
            refine shut_go hK KS ?_
            clear hK K
            refine wpSched_force (fun K hK => ?_)
            go_simp; (first | (go_at_call 25; (with_reducible refine q.mono ?_); rintro e w5 ⟨rfl, b5⟩; have B5 : Below wr.heap.size wr w5 := bCall (bDr (bAl (bRefl _) _)) b5; have BT5 := BT.below B5 BT.lt; have z0 := BT5.cell 0; have z1 := BT5.cell 1; have f0 := BT5.frozen 0; have f1 := BT5.frozen 1) | skip)
            refine shut_go hK KS ?_
            clear hK K
            refine wpSched_last ?_
            first | simp only [List.map_nil] | simp only [List.map_cons, List.map_nil]
            clear KS
            go_wp2_with fail
            refine NoPanic.normal ?_
            go_wp2_with fail
            subst hs2; subst ht2
            exact ⟨⟨k + 1, D2, by omega, by go_num, hD2, (BT5.set_ 0 _).set_ 1 _, bSet (bSet (bCall hb B5) hP _) hP _⟩, by simp [intOf]; omega⟩
          · skip
            have hD9 : Hid (D = ((x.base.zip x.leg).map clsR) ++ x.tiers.map tieR) := Lib.hid (by rw [hD.out, List.take_of_length_le (by omega)])
            clear x0 x1
            have t9 : wr.cell? ⟨W.heap.size, 1, none⟩ = some (.slice al x.lines.length cl_) := (KC.out _ (BX2.below hb BX2.lt)).2.1
            go_wp2_with fail
            go_loopw [8] (fun i wr => ∃ (k : Nat) (D : List Rw), k ≤ x.lines.length ∧ i = .int .i64 k ∧ Hid (D = (((x.base.zip x.leg).map clsR) ++ x.tiers.map tieR) ++ (x.lines.take k).flatMap linR) ∧ Blk wr P 83 #[.string ⟨(shT x D).toArray⟩, .bool (shB D)] ∧ Below w2.heap.size w2 wr) (fun i _ => x.lines.length - (intOf i).toNat)
            case atStart => exact ⟨0, D, Nat.zero_le _, rfl, Lib.hid (by have := hD9.out; rw [this]; simp), BT, hb⟩
            case round =>
              clear t0 t9 BT hb hD9 hD
              clear hkn hlt
              obtain ⟨k, D, hkn, rfl, hD, BT, hb⟩ := hrel
              have t0 : wr.cell? ⟨W.heap.size, 1, none⟩ = some (.slice al x.lines.length cl_) := (KC.out _ (BX2.below hb BX2.lt)).2.1
              have x0 := BT.cell 0
              have x1 := BT.cell 1
              by_cases hlt : k < x.lines.length
              · skip
                obtain ⟨y, hy⟩ : ∃ y, Hid (x.lines[k]? = some y) := ⟨_, Lib.hid (List.getElem?_eq_getElem hlt)⟩
                obtain ⟨⟨p0, p1, p2, p3, m0, m1, m2, m3⟩, eq0, rq0, -⟩ := la3 k y hy.out
                have zo : (la.zip x.lines)[k]? = some ((⟨p0, p1, p2, p3, m0, m1, m2, m3⟩ : LS), y) := by rw [List.getElem?_zip_eq_some]; exact ⟨eq0, hy.out⟩
                obtain ⟨b1, o1, rfl, l1, hc⟩ := Cl_at (f := fun p : LS × Lin => p.1.cl p.2) (fun _ _ => rfl) (la2.below hb) hlt zo
                have c0 := hc 0 (by omega)
                have c1 := hc 1 (by omega)
                have c2 := hc 2 (by omega)
                have c3 := hc 3 (by omega)
                have c4 := hc 4 (by omega)
                have c5 := hc 5 (by omega)
                simp only [LS.cl, List.getElem?_cons_zero, List.getElem?_cons_succ, Nat.add_zero] at c0 c1 c2 c3 c4 c5
                have i0 : (0 : Int) ≤ (k : Int) := by omega
                have i1 : (k : Int) < (x.lines.length : Int) := by omega
                have hr9 : Hid (∃ T9, x.rows = D ++ lineR y :: (y.rules.map ruleR ++ (y.off.map gapR ++ T9))) := Lib.hid ⟨_, by rw [hD.out]; exact split_lin hsp2.out hy.out⟩
                obtain ⟨T9, hr9⟩ := hr9.out
                replace hr9 := Lib.hid hr9
                have hnext : Hid (((D ++ [lineR y]) ++ y.rules.map ruleR) ++ y.off.map gapR = (((x.base.zip x.leg).map clsR) ++ x.tiers.map tieR) ++ (x.lines.take (k + 1)).flatMap linR) := Lib.hid (by rw [take_lin _ hy.out, hD.out])
                have hspr : Hid (x.rows = (D ++ [lineR y]) ++ (y.rules.map ruleR ++ (y.off.map gapR ++ T9))) := Lib.hid (by rw [hr9.out]; simp)
                have hspg : Hid (x.rows = ((D ++ [lineR y]) ++ y.rules.map ruleR) ++ (y.off.map gapR ++ T9)) := Lib.hid (by rw [hr9.out]; simp)
                have hDl : (shT x D).length ≤ 1000000000 := shT_len hr9.out hok.out hs32.out hm
                obtain ⟨hs0, hs1, hs2, hs3⟩ := hs.line y (List.mem_of_getElem? hy.out)
                clear hc zo eq0
                go_upto_region 19 with fail
                have BY := Blk.new wr 56 #[.slice p0 y.offs.length m0, .slice p1 y.legs.length m1, .int .i64 y.cls, .int .i64 y.room, .slice p2 y.rules.length m2, .slice p3 y.off.length m3] _ rfl
                have BT' := BT.alloc (.cells #[.slice p0 y.offs.length m0, .slice p1 y.legs.length m1, .int .i64 y.cls, .int .i64 y.room, .slice p2 y.rules.length m2, .slice p3 y.off.length m3] 56)
                have hb' := bAl hb (.cells #[.slice p0 y.offs.length m0, .slice p1 y.legs.length m1, .int .i64 y.cls, .int .i64 y.room, .slice p2 y.rules.length m2, .slice p3 y.off.length m3] 56)
                have hPg := BT.lt
                have hgl := hb.size
                have hWg : W.heap.size < wr.heap.size := (BX2.below hb BX2.lt).lt
                generalize wr.alloc (.cells #[.slice p0 y.offs.length m0, .slice p1 y.legs.length m1, .int .i64 y.cls, .int .i64 y.room, .slice p2 y.rules.length m2, .slice p3 y.off.length m3] 56) = wL at *
                clear c0 c1 c2 c3 c4 c5 t0 x0 x1 BT i1 l1 hb
                generalize wr.heap.size = gl at *
                have KS : Hid (∀ w', Below wL.heap.size wL w' → w'.cell? ⟨P, 0, none⟩ = some (.string ⟨(shT x D).toArray⟩) ∧ w'.cell? ⟨P, 1, none⟩ = some (.bool (shB D)) ∧ w'.cell? ⟨gl, 0, none⟩ = some (.slice p0 y.offs.length m0) ∧ w'.cell? ⟨gl, 1, none⟩ = some (.slice p1 y.legs.length m1) ∧ w'.cell? ⟨gl, 2, none⟩ = some (.int .i64 y.cls) ∧ w'.cell? ⟨gl, 3, none⟩ = some (.int .i64 y.room)) := Lib.hid (fun w' b => ⟨(BT'.below b BT'.lt).cell 0, (BT'.below b BT'.lt).cell 1, (BY.below b BY.lt).cell 0, (BY.below b BY.lt).cell 1, (BY.below b BY.lt).cell 2, (BY.below b BY.lt).cell 3⟩)
                have bA : Below wL.heap.size wL ((wL.alloc (.cells #[.int .i64 y.cls, .int .i64 y.room, .int .i64 (y.offs.length : Int)] 3)).drew) := bDr (bAl (bRefl wL) _)
                have own0 : World.ownsRow ((wL.alloc (.cells #[.int .i64 y.cls, .int .i64 y.room, .int .i64 (y.offs.length : Int)] 3)).drew) wL.heap.size 3 1 (.slice (some ⟨wL.heap.size, 0, none⟩) 3 3) 3 #[.int .i64 y.cls, .int .i64 y.room, .int .i64 (y.offs.length : Int)].toList := World.ownsRow_lit wL #[.int .i64 y.cls, .int .i64 y.room, .int .i64 (y.offs.length : Int)] 3 (Nat.le_refl _) (by unfold maxLen; omega) rfl
                have hwL := hb'.size
                have rd0 : Rd ((wL.alloc (.cells #[.int .i64 y.cls, .int .i64 y.room, .int .i64 (y.offs.length : Int)] 3)).drew) w2.heap.size 1 p0 y.offs.length (ints y.offs) := rq0.r0.below (hb'.trans (bA.mono hwL))
                have one0 : ∀ u ∈ ints y.offs, u.oneCell' = true := ints_one
                have one1 : ∀ u ∈ ints y.legs, u.oneCell' = true := ints_one
                have g63 : 3 + y.offs.length ≤ maxLen := by unfold maxLen; omega
                have gby : (3 + y.offs.length) * 8 ≤ 140737488355328 := by omega
                have g64 : 3 + y.offs.length + y.legs.length ≤ maxLen := by unfold maxLen; omega
                have gbz : (3 + y.offs.length + y.legs.length) * 8 ≤ 140737488355328 := by omega
                replace bA := Lib.hid bA
                have gN : (lineR y).2.length = 3 + y.offs.length + y.legs.length := by unfold lineR; simp; omega
                have gM : 3 + y.offs.length + y.legs.length ≤ 10000000 := by omega
                refine wp_region_schB (f := 16) KS [(0, 2), (1, 1), (2, 2), (3, 1), (4, 2), (5, 1), (6, 2), (7, 1), (9, 1), (10, 2), (12, 1), (13, 2), (8, 0), (11, 0), (14, 0), (15, 0), (16, 3)] ?_
                simp only [pickS, List.getElem?_cons_zero, List.getElem?_cons_succ]
                refine wpSched_r ?_
                refine wpSched_t ?_
                refine wpSched_r ?_
                refine wpSched_t ?_
                refine wpSched_r ?_
                refine wpSched_t ?_
                refine wpSched_r ?_
                refine wpSched_t ?_
                refine wpSched_t ?_
                refine wpSched_r ?_
                refine wpSched_t ?_
                refine wpSched_r ?_
                refine wpSched_force (fun K hK => ?_)
                first | ((refine step_appendA (.tmp 133) (.tmp 135) 25 wL.heap.size 3 (.int .i64 0) 1 8 _ 3 _ p0 y.offs.length m0 w2.heap.size (ints y.offs) rfl rfl Tryz.underlying25 int_info rfl (by omega) rfl own0 rfl rd0 one0 g63 gby bA.out.size (fun v1 w7 hown1 hghown1 => ?_); have B7 := bA.out.trans (hghown1.below own0 bA.out.size); have rd1 : Rd w7 w2.heap.size 1 p1 y.legs.length (ints y.legs) := rq0.r1.below (hb'.trans (B7.mono hwL)))) | ((refine step_appendA (.tmp 136) (.tmp 138) 25 wL.heap.size 3 (.int .i64 0) 1 8 _ (3 + y.offs.length) _ p1 y.legs.length m1 w2.heap.size (ints y.legs) rfl rfl Tryz.underlying25 int_info rfl (by omega) rfl hown1 rfl rd1 one1 g64 gbz B7.size (fun v2 w8 hown2 hghown2 => ?_); have B8 := B7.trans (hghown2.below hown1 B7.size); obtain ⟨g9, c9, rfl⟩ := own_two hown2 (by omega); have qp := put_line x D y (some ⟨g9, 0, none⟩) c9 _ w8 rfl hown2 gN gM hDl)) | (go_simp; (first | (go_at_call 25; (with_reducible refine qp.mono ?_); rintro e w5 ⟨rfl, b5⟩; have B5 : Below wL.heap.size wL w5 := bCall B8 b5; have BT5 := BT'.below B5 BT'.lt; have z0 := BT5.cell 0; have z1 := BT5.cell 1; have f0 := BT5.frozen 0; have f1 := BT5.frozen 1) | skip))
                refine shut_go hK KS ?_
                clear hK K
                refine wpSched_force (fun K hK => ?_)
                first | ((refine step_appendA (.tmp 133) (.tmp 135) 25 wL.heap.size 3 (.int .i64 0) 1 8 _ 3 _ p0 y.offs.length m0 w2.heap.size (ints y.offs) rfl rfl Tryz.underlying25 int_info rfl (by omega) rfl own0 rfl rd0 one0 g63 gby bA.out.size (fun v1 w7 hown1 hghown1 => ?_); have B7 := bA.out.trans (hghown1.below own0 bA.out.size); have rd1 : Rd w7 w2.heap.size 1 p1 y.legs.length (ints y.legs) := rq0.r1.below (hb'.trans (B7.mono hwL)))) | ((refine step_appendA (.tmp 136) (.tmp 138) 25 wL.heap.size 3 (.int .i64 0) 1 8 _ (3 + y.offs.length) _ p1 y.legs.length m1 w2.heap.size (ints y.legs) rfl rfl Tryz.underlying25 int_info rfl (by omega) rfl hown1 rfl rd1 one1 g64 gbz B7.size (fun v2 w8 hown2 hghown2 => ?_); have B8 := B7.trans (hghown2.below hown1 B7.size); obtain ⟨g9, c9, rfl⟩ := own_two hown2 (by omega); have qp := put_line x D y (some ⟨g9, 0, none⟩) c9 _ w8 rfl hown2 gN gM hDl)) | (go_simp; (first | (go_at_call 25; (with_reducible refine qp.mono ?_); rintro e w5 ⟨rfl, b5⟩; have B5 : Below wL.heap.size wL w5 := bCall B8 b5; have BT5 := BT'.below B5 BT'.lt; have z0 := BT5.cell 0; have z1 := BT5.cell 1; have f0 := BT5.frozen 0; have f1 := BT5.frozen 1) | skip))
                refine shut_go hK KS ?_
                clear hK K
                refine wpSched_force (fun K hK => ?_)
                first | ((refine step_appendA (.tmp 133) (.tmp 135) 25 wL.heap.size 3 (.int .i64 0) 1 8 _ 3 _ p0 y.offs.length m0 w2.heap.size (ints y.offs) rfl rfl Tryz.underlying25 int_info rfl (by omega) rfl own0 rfl rd0 one0 g63 gby bA.out.size (fun v1 w7 hown1 hghown1 => ?_); have B7 := bA.out.trans (hghown1.below own0 bA.out.size); have rd1 : Rd w7 w2.heap.size 1 p1 y.legs.length (ints y.legs) := rq0.r1.below (hb'.trans (B7.mono hwL)))) | ((refine step_appendA (.tmp 136) (.tmp 138) 25 wL.heap.size 3 (.int .i64 0) 1 8 _ (3 + y.offs.length) _ p1 y.legs.length m1 w2.heap.size (ints y.legs) rfl rfl Tryz.underlying25 int_info rfl (by omega) rfl hown1 rfl rd1 one1 g64 gbz B7.size (fun v2 w8 hown2 hghown2 => ?_); have B8 := B7.trans (hghown2.below hown1 B7.size); obtain ⟨g9, c9, rfl⟩ := own_two hown2 (by omega); have qp := put_line x D y (some ⟨g9, 0, none⟩) c9 _ w8 rfl hown2 gN gM hDl)) | (go_simp; (first | (go_at_call 25; (with_reducible refine qp.mono ?_); rintro e w5 ⟨rfl, b5⟩; have B5 : Below wL.heap.size wL w5 := bCall B8 b5; have BT5 := BT'.below B5 BT'.lt; have z0 := BT5.cell 0; have z1 := BT5.cell 1; have f0 := BT5.frozen 0; have f1 := BT5.frozen 1) | skip))
                refine shut_go hK KS ?_
                clear hK K
                refine wpSched_force (fun K hK => ?_)
                first | ((refine step_appendA (.tmp 133) (.tmp 135) 25 wL.heap.size 3 (.int .i64 0) 1 8 _ 3 _ p0 y.offs.length m0 w2.heap.size (ints y.offs) rfl rfl Tryz.underlying25 int_info rfl (by omega) rfl own0 rfl rd0 one0 g63 gby bA.out.size (fun v1 w7 hown1 hghown1 => ?_); have B7 := bA.out.trans (hghown1.below own0 bA.out.size); have rd1 : Rd w7 w2.heap.size 1 p1 y.legs.length (ints y.legs) := rq0.r1.below (hb'.trans (B7.mono hwL)))) | ((refine step_appendA (.tmp 136) (.tmp 138) 25 wL.heap.size 3 (.int .i64 0) 1 8 _ (3 + y.offs.length) _ p1 y.legs.length m1 w2.heap.size (ints y.legs) rfl rfl Tryz.underlying25 int_info rfl (by omega) rfl hown1 rfl rd1 one1 g64 gbz B7.size (fun v2 w8 hown2 hghown2 => ?_); have B8 := B7.trans (hghown2.below hown1 B7.size); obtain ⟨g9, c9, rfl⟩ := own_two hown2 (by omega); have qp := put_line x D y (some ⟨g9, 0, none⟩) c9 _ w8 rfl hown2 gN gM hDl)) | (go_simp; (first | (go_at_call 25; (with_reducible refine qp.mono ?_); rintro e w5 ⟨rfl, b5⟩; have B5 : Below wL.heap.size wL w5 := bCall B8 b5; have BT5 := BT'.below B5 BT'.lt; have z0 := BT5.cell 0; have z1 := BT5.cell 1; have f0 := BT5.frozen 0; have f1 := BT5.frozen 1) | skip))
                refine shut_go hK KS ?_
                clear hK K
                refine wpSched_last ?_
                first | simp only [List.map_nil] | simp only [List.map_cons, List.map_nil]
                clear KS
                go_wp2_with fail
                refine NoPanic.normal ?_
                obtain ⟨D1, hD1⟩ : ∃ D1, Hid (D1 = D ++ [lineR y]) := ⟨_, Lib.hid rfl⟩
                rw [← hD1.out] at hspr hspg hnext ⊢
                have BTn : Blk ((w5.setCell ⟨P, 0, none⟩ (.string ⟨(shT x D1).toArray⟩)).setCell ⟨P, 1, none⟩ (.bool (shB D1))) P 83 #[.string ⟨(shT x D1).toArray⟩, .bool (shB D1)] := (BT5.set_ 0 _).set_ 1 _
                have BLn := ((BY.below B5 BY.lt).far (p := ⟨P, 0, none⟩) (by show gl ≠ P; omega) (.string ⟨(shT x D1).toArray⟩)).far (p := ⟨P, 1, none⟩) (by show gl ≠ P; omega) (.bool (shB D1))
                have hbn := bSet (p := ⟨P, 1, none⟩) (bSet (p := ⟨P, 0, none⟩) (bCall hb' B5) hP (.string ⟨(shT x D1).toArray⟩)) hP (.bool (shB D1))
                generalize (w5.setCell ⟨P, 0, none⟩ (.string ⟨(shT x D1).toArray⟩)).setCell ⟨P, 1, none⟩ (.bool (shB D1)) = w9 at *
                clear BT5 z0 z1 f0 f1 B5 b5 qp B8 hown2 hghown2 B7 hown1 hghown1 rd1 rd0 own0 bA gN gM g63 g64 gby gbz one0 one1 BT' hb' BY hwL hr9 hDl hs0 hs1
                have u0 := BLn.cell 4
                have rr2 := rq0.r2
                have rr3 := rq0.r3
                clear rq0
                go_wp2_with fail
                go_loopw [10] (fun i wr => ∃ (j : Nat) (D : List Rw), j ≤ y.rules.length ∧ i = .int .i64 j ∧ Hid (D = (D1) ++ (y.rules.take j).map ruleR) ∧ Blk wr P 83 #[.string ⟨(shT x D).toArray⟩, .bool (shB D)] ∧ Below w2.heap.size w2 wr ∧ Blk wr gl 56 #[.slice p0 y.offs.length m0, .slice p1 y.legs.length m1, .int .i64 y.cls, .int .i64 y.room, .slice p2 y.rules.length m2, .slice p3 y.off.length m3]) (fun i _ => y.rules.length - (intOf i).toNat)
                case atStart => exact ⟨0, D1, Nat.zero_le _, rfl, Lib.hid (by simp), BTn, hbn, BLn⟩
                case round =>
                  clear u0 BTn hbn BLn
                  obtain ⟨j, D, hjn, rfl, hD, BT, hb, BL⟩ := hrel
                  have u0 := BL.cell 4
                  have x0 := BT.cell 0
                  have x1 := BT.cell 1
                  by_cases hjt : j < y.rules.length
                  · skip
                    obtain ⟨z, hz⟩ : ∃ z, Hid (y.rules[j]? = some z) := ⟨_, Lib.hid (List.getElem?_eq_getElem hjt)⟩
                    obtain ⟨b2, o2, rfl, l2, hc⟩ := Cl_at (f := Rl.cl) (fun _ _ => rfl) (rr2.below hb) hjt hz.out
                    have c0 := hc 0 (by omega)
                    have c1 := hc 1 (by omega)
                    have c2 := hc 2 (by omega)
                    simp only [Rl.cl, List.getElem?_cons_zero, List.getElem?_cons_succ, Nat.add_zero] at c0 c1 c2
                    have i2 : (0 : Int) ≤ (j : Int) := by omega
                    have i3 : (j : Int) < (y.rules.length : Int) := by omega
                    have hr9 : Hid (x.rows = D ++ ruleR z :: _) := Lib.hid (by rw [hD.out]; exact split_map hspr.out hz.out)
                    have hDl : (shT x D).length ≤ 1000000000 := shT_len hr9.out hok.out hs32.out hm
                    have q : Calls Tryz.prog 25 #[.agg #[.string ⟨(shT x D).toArray⟩, .bool (shB D)], .string ⟨#[114, 117, 108, 101]⟩, .slice (some ⟨wr.heap.size, 0, none⟩) 3 3] ((wr.alloc (.cells #[.int .i64 z.first, .int .i64 z.until_, .int .i64 z.every] 3)).drew) _ := put_sh x D (ruleR z) (some ⟨wr.heap.size, 0, none⟩) 3 3 ((wr.alloc (.cells #[.int .i64 z.first, .int .i64 z.until_, .int .i64 z.every] 3)).drew) (rd_lit (Blk.new wr 3 #[.int .i64 z.first, .int .i64 z.until_, .int .i64 z.every] _ rfl)) rfl (Nat.le_of_ble_eq_true rfl) hDl
                    obtain ⟨D2, hDe⟩ : ∃ D2, Hid (D ++ [ruleR z] = D2) := ⟨_, Lib.hid rfl⟩
                    rw [hDe.out] at q
                    have hD2 : Hid (D2 = (D1) ++ (y.rules.take (j + 1)).map ruleR) := Lib.hid (by rw [← hDe.out, take_map _ hz.out, hD.out])
                    obtain ⟨s2, hs2⟩ : ∃ s2 : ByteArray, s2 = ⟨(shT x D2).toArray⟩ := ⟨_, rfl⟩
                    obtain ⟨t2, ht2⟩ : ∃ t2, t2 = shB D2 := ⟨_, rfl⟩
                    rw [← hs2, ← ht2] at q
                    have KS : Hid (∀ w', Below wr.heap.size wr w' → w'.cell? ⟨P, 0, none⟩ = some (.string ⟨(shT x D).toArray⟩) ∧ w'.cell? ⟨P, 1, none⟩ = some (.bool (shB D)) ∧ w'.cell? ⟨gl, 4, none⟩ = some (.slice (some ⟨b2, o2, none⟩) y.rules.length m2) ∧ w'.cell? ⟨b2, o2 + j * 3, none⟩ = some (.int .i64 z.first) ∧ w'.cell? ⟨b2, o2 + j * 3 + 1, none⟩ = some (.int .i64 z.until_) ∧ w'.cell? ⟨b2, o2 + j * 3 + 2, none⟩ = some (.int .i64 z.every)) := Lib.hid (fun w' b => ⟨(b.cell (p := ⟨P, 0, none⟩) BT.lt).trans x0, (b.cell (p := ⟨P, 1, none⟩) BT.lt).trans x1, (b.cell (p := ⟨gl, 4, none⟩) BL.lt).trans u0, (b.cell (p := ⟨b2, o2 + j * 3, none⟩) (Nat.lt_of_lt_of_le l2 hb.size)).trans c0, (b.cell (p := ⟨b2, o2 + j * 3 + 1, none⟩) (Nat.lt_of_lt_of_le l2 hb.size)).trans c1, (b.cell (p := ⟨b2, o2 + j * 3 + 2, none⟩) (Nat.lt_of_lt_of_le l2 hb.size)).trans c2⟩)
                    clear hc hz hr9 hDl
                    go_upto_region 23 with fail
                    refine wp_region_schB (f := 21) KS [(0, 2), (1, 1), (2, 2), (3, 1), (4, 1), (5, 1), (6, 2), (7, 1), (8, 2), (9, 1), (10, 1), (11, 1), (12, 2), (13, 1), (14, 2), (15, 1), (16, 1), (17, 1), (18, 2), (19, 0), (20, 0), (21, 3)] ?_
                    simp only [pickS, List.getElem?_cons_zero, List.getElem?_cons_succ]
                    refine wpSched_r ?_
                    refine wpSched_t ?_
                    refine wpSched_r ?_
                    refine wpSched_t ?_
                    refine wpSched_t ?_
                    refine wpSched_t ?_
                    refine wpSched_r ?_
                    refine wpSched_t ?_
                    refine wpSched_r ?_
                    refine wpSched_t ?_
                    refine wpSched_t ?_
                    refine wpSched_t ?_
                    refine wpSched_r ?_
                    refine wpSched_t ?_
                    refine wpSched_r ?_
                    refine wpSched_t ?_
                    refine wpSched_t ?_
                    refine wpSched_t ?_
                    refine wpSched_r ?_
                    refine wpSched_force (fun K hK => ?_)
                    go_simp; (first | (go_at_call 25; (with_reducible refine q.mono ?_); rintro e w5 ⟨rfl, b5⟩; have B5 : Below wr.heap.size wr w5 := bCall (bDr (bAl (bRefl _) _)) b5; have BT5 := BT.below B5 BT.lt; have z0 := BT5.cell 0; have z1 := BT5.cell 1; have f0 := BT5.frozen 0; have f1 := BT5.frozen 1) | skip)
                    refine shut_go hK KS ?_
                    clear hK K
                    refine wpSched_force (fun K hK => ?_)
                    go_simp; (first | (go_at_call 25; (with_reducible refine q.mono ?_); rintro e w5 ⟨rfl, b5⟩; have B5 : Below wr.heap.size wr w5 := bCall (bDr (bAl (bRefl _) _)) b5; have BT5 := BT.below B5 BT.lt; have z0 := BT5.cell 0; have z1 := BT5.cell 1; have f0 := BT5.frozen 0; have f1 := BT5.frozen 1) | skip)
                    refine shut_go hK KS ?_
                    clear hK K
                    refine wpSched_last ?_
                    first | simp only [List.map_nil] | simp only [List.map_cons, List.map_nil]
                    clear KS
                    go_wp2_with fail
                    refine NoPanic.normal ?_
                    go_wp2_with fail
                    subst hs2; subst ht2
                    exact ⟨⟨j + 1, D2, by omega, by go_num, hD2, (BT5.set_ 0 _).set_ 1 _, bSet (bSet (bCall hb B5) hP _) hP _, ((BL.below B5 BL.lt).far (by show gl ≠ P; omega) _).far (by show gl ≠ P; omega) _⟩, by simp [intOf]; omega⟩
                  · skip
                    clear x0 x1
                    have hD9 : Hid (D = (D1) ++ y.rules.map ruleR) := Lib.hid (by rw [hD.out, List.take_of_length_le (by omega)])
                    have u9 := BL.cell 5
                    go_wp2_with fail
                    go_loopw [11] (fun i wr => ∃ (j : Nat) (D : List Rw), j ≤ y.off.length ∧ i = .int .i64 j ∧ Hid (D = (D1 ++ y.rules.map ruleR) ++ (y.off.take j).map gapR) ∧ Blk wr P 83 #[.string ⟨(shT x D).toArray⟩, .bool (shB D)] ∧ Below w2.heap.size w2 wr ∧ Blk wr gl 56 #[.slice p0 y.offs.length m0, .slice p1 y.legs.length m1, .int .i64 y.cls, .int .i64 y.room, .slice p2 y.rules.length m2, .slice p3 y.off.length m3]) (fun i _ => y.off.length - (intOf i).toNat)
                    case atStart => exact ⟨0, D, Nat.zero_le _, rfl, Lib.hid (by have := hD9.out; rw [this]; simp), BT, hb, BL⟩
                    case round =>
                      clear u0 u9 BT hb BL hD9 hD hjn hjt
                      obtain ⟨j, D, hjn, rfl, hD, BT, hb, BL⟩ := hrel
                      have u0 := BL.cell 5
                      have x0 := BT.cell 0
                      have x1 := BT.cell 1
                      by_cases hjt : j < y.off.length
                      · skip
                        obtain ⟨z, hz⟩ : ∃ z, Hid (y.off[j]? = some z) := ⟨_, Lib.hid (List.getElem?_eq_getElem hjt)⟩
                        obtain ⟨b2, o2, rfl, l2, hc⟩ := Cl_at (f := Gp.cl) (fun _ _ => rfl) (rr3.below hb) hjt hz.out
                        have c0 := hc 0 (by omega)
                        have c1 := hc 1 (by omega)
                        simp only [Gp.cl, List.getElem?_cons_zero, List.getElem?_cons_succ, Nat.add_zero] at c0 c1
                        have i2 : (0 : Int) ≤ (j : Int) := by omega
                        have i3 : (j : Int) < (y.off.length : Int) := by omega
                        have hr9 : Hid (x.rows = D ++ gapR z :: _) := Lib.hid (by rw [hD.out]; exact split_map hspg.out hz.out)
                        have hDl : (shT x D).length ≤ 1000000000 := shT_len hr9.out hok.out hs32.out hm
                        have q : Calls Tryz.prog 25 #[.agg #[.string ⟨(shT x D).toArray⟩, .bool (shB D)], .string ⟨#[103, 97, 112]⟩, .slice (some ⟨wr.heap.size, 0, none⟩) 2 2] ((wr.alloc (.cells #[.int .i64 z.from_, .int .i64 z.until_] 3)).drew) _ := put_sh x D (gapR z) (some ⟨wr.heap.size, 0, none⟩) 2 2 ((wr.alloc (.cells #[.int .i64 z.from_, .int .i64 z.until_] 3)).drew) (rd_lit (Blk.new wr 3 #[.int .i64 z.from_, .int .i64 z.until_] _ rfl)) rfl (Nat.le_of_ble_eq_true rfl) hDl
                        obtain ⟨D2, hDe⟩ : ∃ D2, Hid (D ++ [gapR z] = D2) := ⟨_, Lib.hid rfl⟩
                        rw [hDe.out] at q
                        have hD2 : Hid (D2 = (D1 ++ y.rules.map ruleR) ++ (y.off.take (j + 1)).map gapR) := Lib.hid (by rw [← hDe.out, take_map _ hz.out, hD.out])
                        obtain ⟨s2, hs2⟩ : ∃ s2 : ByteArray, s2 = ⟨(shT x D2).toArray⟩ := ⟨_, rfl⟩
                        obtain ⟨t2, ht2⟩ : ∃ t2, t2 = shB D2 := ⟨_, rfl⟩
                        rw [← hs2, ← ht2] at q
                        have KS : Hid (∀ w', Below wr.heap.size wr w' → w'.cell? ⟨P, 0, none⟩ = some (.string ⟨(shT x D).toArray⟩) ∧ w'.cell? ⟨P, 1, none⟩ = some (.bool (shB D)) ∧ w'.cell? ⟨gl, 5, none⟩ = some (.slice (some ⟨b2, o2, none⟩) y.off.length m3) ∧ w'.cell? ⟨b2, o2 + j * 2, none⟩ = some (.int .i64 z.from_) ∧ w'.cell? ⟨b2, o2 + j * 2 + 1, none⟩ = some (.int .i64 z.until_)) := Lib.hid (fun w' b => ⟨(b.cell (p := ⟨P, 0, none⟩) BT.lt).trans x0, (b.cell (p := ⟨P, 1, none⟩) BT.lt).trans x1, (b.cell (p := ⟨gl, 5, none⟩) BL.lt).trans u0, (b.cell (p := ⟨b2, o2 + j * 2, none⟩) (Nat.lt_of_lt_of_le l2 hb.size)).trans c0, (b.cell (p := ⟨b2, o2 + j * 2 + 1, none⟩) (Nat.lt_of_lt_of_le l2 hb.size)).trans c1⟩)
                        clear hc hz hr9 hDl
                        go_upto_region 27 with fail
                        refine wp_region_schB (f := 15) KS [(0, 2), (1, 1), (2, 2), (3, 1), (4, 1), (5, 1), (6, 2), (7, 1), (8, 2), (9, 1), (10, 1), (11, 1), (12, 2), (13, 0), (14, 0), (15, 3)] ?_
                        simp only [pickS, List.getElem?_cons_zero, List.getElem?_cons_succ]
                        refine wpSched_r ?_
                        refine wpSched_t ?_
                        refine wpSched_r ?_
                        refine wpSched_t ?_
                        refine wpSched_t ?_
                        refine wpSched_t ?_
                        refine wpSched_r ?_
                        refine wpSched_t ?_
                        refine wpSched_r ?_
                        refine wpSched_t ?_
                        refine wpSched_t ?_
                        refine wpSched_t ?_
                        refine wpSched_r ?_
                        refine wpSched_force (fun K hK => ?_)
                        go_simp; (first | (go_at_call 25; (with_reducible refine q.mono ?_); rintro e w5 ⟨rfl, b5⟩; have B5 : Below wr.heap.size wr w5 := bCall (bDr (bAl (bRefl _) _)) b5; have BT5 := BT.below B5 BT.lt; have z0 := BT5.cell 0; have z1 := BT5.cell 1; have f0 := BT5.frozen 0; have f1 := BT5.frozen 1) | skip)
                        refine shut_go hK KS ?_
                        clear hK K
                        refine wpSched_force (fun K hK => ?_)
                        go_simp; (first | (go_at_call 25; (with_reducible refine q.mono ?_); rintro e w5 ⟨rfl, b5⟩; have B5 : Below wr.heap.size wr w5 := bCall (bDr (bAl (bRefl _) _)) b5; have BT5 := BT.below B5 BT.lt; have z0 := BT5.cell 0; have z1 := BT5.cell 1; have f0 := BT5.frozen 0; have f1 := BT5.frozen 1) | skip)
                        refine shut_go hK KS ?_
                        clear hK K
                        refine wpSched_last ?_
                        first | simp only [List.map_nil] | simp only [List.map_cons, List.map_nil]
                        clear KS
                        go_wp2_with fail
                        refine NoPanic.normal ?_
                        go_wp2_with fail
                        subst hs2; subst ht2
                        exact ⟨⟨j + 1, D2, by omega, by go_num, hD2, (BT5.set_ 0 _).set_ 1 _, bSet (bSet (bCall hb B5) hP _) hP _, ((BL.below B5 BL.lt).far (by show gl ≠ P; omega) _).far (by show gl ≠ P; omega) _⟩, by simp [intOf]; omega⟩
                      · skip
                        clear x0 x1
                        have hD9 : Hid (D = (D1 ++ y.rules.map ruleR) ++ y.off.map gapR) := Lib.hid (by rw [hD.out, List.take_of_length_le (by omega)])
                        go_wp2_with fail
                        exact ⟨⟨k + 1, D, by omega, by go_num, Lib.hid (by rw [hD9.out]; exact hnext.out), BT, hb⟩, by simp [intOf]; omega⟩
              · skip
                have hD9 : Hid (D = (((x.base.zip x.leg).map clsR) ++ x.tiers.map tieR) ++ x.lines.flatMap linR) := Lib.hid (by rw [hD.out, List.take_of_length_le (by omega)])
                clear x0 x1
                have t9 : wr.cell? ⟨W.heap.size, 5, none⟩ = some (.slice ao x.orders.length co) := (KC.out _ (BX2.below hb BX2.lt)).2.2.2.2.2.1
                go_wp2_with fail
                go_loopw [12] (fun i wr => ∃ (k : Nat) (D : List Rw), k ≤ x.orders.length ∧ i = .int .i64 k ∧ Hid (D = ((((x.base.zip x.leg).map clsR) ++ x.tiers.map tieR) ++ x.lines.flatMap linR) ++ (x.orders.take k).map odrR) ∧ Blk wr P 83 #[.string ⟨(shT x D).toArray⟩, .bool (shB D)] ∧ Below w2.heap.size w2 wr) (fun i _ => x.orders.length - (intOf i).toNat)
                case atStart => exact ⟨0, D, Nat.zero_le _, rfl, Lib.hid (by have := hD9.out; rw [this]; simp), BT, hb⟩
                case round =>
                  clear t0 t9 BT hb hD9 hD
                  clear hkn hlt
                  obtain ⟨k, D, hkn, rfl, hD, BT, hb⟩ := hrel
                  have t0 : wr.cell? ⟨W.heap.size, 5, none⟩ = some (.slice ao x.orders.length co) := (KC.out _ (BX2.below hb BX2.lt)).2.2.2.2.2.1
                  have x0 := BT.cell 0
                  have x1 := BT.cell 1
                  by_cases hlt : k < x.orders.length
                  · skip
                    obtain ⟨y, hy⟩ : ∃ y, Hid (x.orders[k]? = some y) := ⟨_, Lib.hid (List.getElem?_eq_getElem hlt)⟩
                    obtain ⟨Ao, cao, eo, ro⟩ := va3 k y hy.out
                    have zo : (x.orders.zip va)[k]? = some (y, Value.slice Ao y.ag.length cao) := by rw [List.getElem?_zip_eq_some]; exact ⟨hy.out, eo⟩
                    obtain ⟨b1, o1, rfl, l1, hc⟩ := Cl_at (f := fun p : Odr × Value => p.1.cl p.2) (fun _ _ => rfl) (va2.below hb) hlt zo
                    have c0 := hc 0 (by omega)
                    have c1 := hc 1 (by omega)
                    have c2 := hc 2 (by omega)
                    have c3 := hc 3 (by omega)
                    have c4 := hc 4 (by omega)
                    have c5 := hc 5 (by omega)
                    have c6 := hc 6 (by omega)
                    have c7 := hc 7 (by omega)
                    have c8 := hc 8 (by omega)
                    have c9 := hc 9 (by omega)
                    have c10 := hc 10 (by omega)
                    simp only [Odr.cl, List.getElem?_cons_zero, List.getElem?_cons_succ, Nat.add_zero] at c0 c1 c2 c3 c4 c5 c6 c7 c8 c9 c10
                    have i0 : (0 : Int) ≤ (k : Int) := by omega
                    have i1 : (k : Int) < (x.orders.length : Int) := by omega
                    have hr9 : Hid (x.rows = D ++ odrR y :: _) := Lib.hid (by rw [hD.out]; exact split_map hsp3.out hy.out)
                    clear hc zo eo
                    go_upto_region 32 with fail
                    have BY := Blk.new wr 65 #[.int .i64 y.from_, .int .i64 y.person, .int .i64 y.dest, .int .i64 y.cls, .int .i64 y.after, .int .i64 y.by_, .int .i64 y.crowd, .int .i64 y.pay, .slice Ao y.ag.length cao, .bool y.back, .int .i64 y.els] _ rfl
                    have BT' := BT.alloc (.cells #[.int .i64 y.from_, .int .i64 y.person, .int .i64 y.dest, .int .i64 y.cls, .int .i64 y.after, .int .i64 y.by_, .int .i64 y.crowd, .int .i64 y.pay, .slice Ao y.ag.length cao, .bool y.back, .int .i64 y.els] 65)
                    have hb' := bAl hb (.cells #[.int .i64 y.from_, .int .i64 y.person, .int .i64 y.dest, .int .i64 y.cls, .int .i64 y.after, .int .i64 y.by_, .int .i64 y.crowd, .int .i64 y.pay, .slice Ao y.ag.length cao, .bool y.back, .int .i64 y.els] 65)
                    have hPg := BT.lt
                    generalize wr.alloc (.cells #[.int .i64 y.from_, .int .i64 y.person, .int .i64 y.dest, .int .i64 y.cls, .int .i64 y.after, .int .i64 y.by_, .int .i64 y.crowd, .int .i64 y.pay, .slice Ao y.ag.length cao, .bool y.back, .int .i64 y.els] 65) = wL at *
                    clear c0 c1 c2 c3 c4 c5 c6 c7 c8 c9 c10 t0 x0 x1 BT i1 l1 hb
                    generalize wr.heap.size = gl at *
                    clear wr
                    have KS : Hid (∀ w', Below wL.heap.size wL w' → w'.cell? ⟨P, 0, none⟩ = some (.string ⟨(shT x D).toArray⟩) ∧ w'.cell? ⟨P, 1, none⟩ = some (.bool (shB D)) ∧ w'.cell? ⟨gl, 0, none⟩ = some (.int .i64 y.from_) ∧ w'.cell? ⟨gl, 1, none⟩ = some (.int .i64 y.person) ∧ w'.cell? ⟨gl, 2, none⟩ = some (.int .i64 y.dest) ∧ w'.cell? ⟨gl, 3, none⟩ = some (.int .i64 y.cls) ∧ w'.cell? ⟨gl, 4, none⟩ = some (.int .i64 y.after) ∧ w'.cell? ⟨gl, 5, none⟩ = some (.int .i64 y.by_) ∧ w'.cell? ⟨gl, 6, none⟩ = some (.int .i64 y.crowd) ∧ w'.cell? ⟨gl, 7, none⟩ = some (.int .i64 y.pay) ∧ w'.cell? ⟨gl, 8, none⟩ = some (.slice Ao y.ag.length cao) ∧ w'.cell? ⟨gl, 9, none⟩ = some (.bool y.back) ∧ w'.cell? ⟨gl, 10, none⟩ = some (.int .i64 y.els)) := Lib.hid (fun w' b => ⟨(BT'.below b BT'.lt).cell 0, (BT'.below b BT'.lt).cell 1, (BY.below b BY.lt).cell 0, (BY.below b BY.lt).cell 1, (BY.below b BY.lt).cell 2, (BY.below b BY.lt).cell 3, (BY.below b BY.lt).cell 4, (BY.below b BY.lt).cell 5, (BY.below b BY.lt).cell 6, (BY.below b BY.lt).cell 7, (BY.below b BY.lt).cell 8, (BY.below b BY.lt).cell 9, (BY.below b BY.lt).cell 10⟩)
                    have bA : Below wL.heap.size wL ((wL.alloc (.cells #[.int .i64 y.from_, .int .i64 y.person, .int .i64 y.dest, .int .i64 y.cls, .int .i64 y.after, .int .i64 y.by_, .int .i64 y.crowd, .int .i64 y.pay, .int .i64 (flagI y.back), .int .i64 y.els] 3)).drew) := bDr (bAl (bRefl wL) _)
                    have own0 : World.ownsRow ((wL.alloc (.cells #[.int .i64 y.from_, .int .i64 y.person, .int .i64 y.dest, .int .i64 y.cls, .int .i64 y.after, .int .i64 y.by_, .int .i64 y.crowd, .int .i64 y.pay, .int .i64 (flagI y.back), .int .i64 y.els] 3)).drew) wL.heap.size 3 1 (.slice (some ⟨wL.heap.size, 0, none⟩) 10 10) 10 #[.int .i64 y.from_, .int .i64 y.person, .int .i64 y.dest, .int .i64 y.cls, .int .i64 y.after, .int .i64 y.by_, .int .i64 y.crowd, .int .i64 y.pay, .int .i64 (flagI y.back), .int .i64 y.els].toList := World.ownsRow_lit wL #[.int .i64 y.from_, .int .i64 y.person, .int .i64 y.dest, .int .i64 y.cls, .int .i64 y.after, .int .i64 y.by_, .int .i64 y.crowd, .int .i64 y.pay, .int .i64 (flagI y.back), .int .i64 y.els] 10 (Nat.le_refl _) (by unfold maxLen; omega) rfl
                    have hwL := hb'.size
                    have rd0 : Rd ((wL.alloc (.cells #[.int .i64 y.from_, .int .i64 y.person, .int .i64 y.dest, .int .i64 y.cls, .int .i64 y.after, .int .i64 y.by_, .int .i64 y.crowd, .int .i64 y.pay, .int .i64 (flagI y.back), .int .i64 y.els] 3)).drew) w2.heap.size 1 Ao y.ag.length (ints y.ag) := ro.below (hb'.trans (bA.mono hwL))
                    have one0 : ∀ u ∈ ints y.ag, u.oneCell' = true := ints_one
                    have hag := (hs.order y (List.mem_of_getElem? hy.out)).1
                    have g63 : 10 + y.ag.length ≤ maxLen := by unfold maxLen; omega
                    have gby : (10 + y.ag.length) * 8 ≤ 140737488355328 := by omega
                    replace bA := Lib.hid bA
                    have gN : (odrR y).2.length = 10 + y.ag.length := by unfold odrR; simp; omega
                    have gM : 10 + y.ag.length ≤ 10000000 := by omega
                    have hDl : (shT x D).length ≤ 1000000000 := shT_len hr9.out hok.out hs32.out hm
                    obtain ⟨D2, hDe⟩ : ∃ D2, Hid (D ++ [odrR y] = D2) := ⟨_, Lib.hid rfl⟩
                    have hD2 : Hid (D2 = ((((x.base.zip x.leg).map clsR) ++ x.tiers.map tieR) ++ x.lines.flatMap linR) ++ (x.orders.take (k + 1)).map odrR) := Lib.hid (by rw [← hDe.out, take_map _ hy.out, hD.out])
                    have eI : ints (odrR y).2 = #[.int .i64 y.from_, .int .i64 y.person, .int .i64 y.dest, .int .i64 y.cls, .int .i64 y.after, .int .i64 y.by_, .int .i64 y.crowd, .int .i64 y.pay, .int .i64 (flagI y.back), .int .i64 y.els].toList ++ ints y.ag := by unfold odrR ints; simp
                    refine wp_region_schB (f := 27) KS [(0, 2), (1, 1), (2, 2), (3, 1), (4, 2), (5, 1), (6, 2), (7, 1), (8, 2), (9, 1), (10, 2), (11, 1), (12, 2), (13, 1), (14, 2), (15, 1), (16, 2), (17, 1), (18, 2), (20, 1), (21, 2), (23, 1), (24, 2), (19, 0), (22, 0), (25, 0), (26, 0), (27, 3)] ?_
                    simp only [pickS, List.getElem?_cons_zero, List.getElem?_cons_succ]
                    refine wpSched_r ?_
                    refine wpSched_t ?_
                    refine wpSched_r ?_
                    refine wpSched_t ?_
                    refine wpSched_r ?_
                    refine wpSched_t ?_
                    refine wpSched_r ?_
                    refine wpSched_t ?_
                    refine wpSched_r ?_
                    refine wpSched_t ?_
                    refine wpSched_r ?_
                    refine wpSched_t ?_
                    refine wpSched_r ?_
                    refine wpSched_t ?_
                    refine wpSched_r ?_
                    refine wpSched_t ?_
                    refine wpSched_r ?_
                    refine wpSched_t ?_
                    refine wpSched_r ?_
                    refine wpSched_t ?_
                    refine wpSched_r ?_
                    refine wpSched_t ?_
                    refine wpSched_r ?_
                    refine wpSched_force (fun K hK => ?_)
                    first | ((refine step_appendA (.tmp 225) (.tmp 227) 25 wL.heap.size 3 (.int .i64 0) 1 8 _ 10 _ Ao y.ag.length cao w2.heap.size (ints y.ag) rfl rfl Tryz.underlying25 int_info rfl (by omega) rfl own0 rfl rd0 one0 g63 gby bA.out.size (fun v1 w7 hown1 hg1 => ?_); have B7 := bA.out.trans (hg1.below own0 bA.out.size); obtain ⟨g9, c9, rfl⟩ := own_two hown1 (by omega); have qp := put_odr x D D2 y (some ⟨g9, 0, none⟩) c9 _ w7 rfl hown1 eI gN gM hDl hDe.out)) | (go_simp; (first | (go_at_call 26; (with_reducible refine (rp_flag _ _).mono ?_); rintro e w6 ⟨rfl, rfl⟩) | (go_at_call 25; (with_reducible refine qp.mono ?_); rintro e w5 ⟨rfl, b5⟩; have B5 : Below wL.heap.size wL w5 := bCall B7 b5; have BT5 := BT'.below B5 BT'.lt; have z0 := BT5.cell 0; have z1 := BT5.cell 1; have f0 := BT5.frozen 0; have f1 := BT5.frozen 1) | skip))
                    refine shut_go hK KS ?_
                    clear hK K
                    refine wpSched_force (fun K hK => ?_)
                    first | ((refine step_appendA (.tmp 225) (.tmp 227) 25 wL.heap.size 3 (.int .i64 0) 1 8 _ 10 _ Ao y.ag.length cao w2.heap.size (ints y.ag) rfl rfl Tryz.underlying25 int_info rfl (by omega) rfl own0 rfl rd0 one0 g63 gby bA.out.size (fun v1 w7 hown1 hg1 => ?_); have B7 := bA.out.trans (hg1.below own0 bA.out.size); obtain ⟨g9, c9, rfl⟩ := own_two hown1 (by omega); have qp := put_odr x D D2 y (some ⟨g9, 0, none⟩) c9 _ w7 rfl hown1 eI gN gM hDl hDe.out)) | (go_simp; (first | (go_at_call 26; (with_reducible refine (rp_flag _ _).mono ?_); rintro e w6 ⟨rfl, rfl⟩) | (go_at_call 25; (with_reducible refine qp.mono ?_); rintro e w5 ⟨rfl, b5⟩; have B5 : Below wL.heap.size wL w5 := bCall B7 b5; have BT5 := BT'.below B5 BT'.lt; have z0 := BT5.cell 0; have z1 := BT5.cell 1; have f0 := BT5.frozen 0; have f1 := BT5.frozen 1) | skip))
                    refine shut_go hK KS ?_
                    clear hK K
                    refine wpSched_force (fun K hK => ?_)
                    first | ((refine step_appendA (.tmp 225) (.tmp 227) 25 wL.heap.size 3 (.int .i64 0) 1 8 _ 10 _ Ao y.ag.length cao w2.heap.size (ints y.ag) rfl rfl Tryz.underlying25 int_info rfl (by omega) rfl own0 rfl rd0 one0 g63 gby bA.out.size (fun v1 w7 hown1 hg1 => ?_); have B7 := bA.out.trans (hg1.below own0 bA.out.size); obtain ⟨g9, c9, rfl⟩ := own_two hown1 (by omega); have qp := put_odr x D D2 y (some ⟨g9, 0, none⟩) c9 _ w7 rfl hown1 eI gN gM hDl hDe.out)) | (go_simp; (first | (go_at_call 26; (with_reducible refine (rp_flag _ _).mono ?_); rintro e w6 ⟨rfl, rfl⟩) | (go_at_call 25; (with_reducible refine qp.mono ?_); rintro e w5 ⟨rfl, b5⟩; have B5 : Below wL.heap.size wL w5 := bCall B7 b5; have BT5 := BT'.below B5 BT'.lt; have z0 := BT5.cell 0; have z1 := BT5.cell 1; have f0 := BT5.frozen 0; have f1 := BT5.frozen 1) | skip))
                    refine shut_go hK KS ?_
                    clear hK K
                    refine wpSched_force (fun K hK => ?_)
                    first | ((refine step_appendA (.tmp 225) (.tmp 227) 25 wL.heap.size 3 (.int .i64 0) 1 8 _ 10 _ Ao y.ag.length cao w2.heap.size (ints y.ag) rfl rfl Tryz.underlying25 int_info rfl (by omega) rfl own0 rfl rd0 one0 g63 gby bA.out.size (fun v1 w7 hown1 hg1 => ?_); have B7 := bA.out.trans (hg1.below own0 bA.out.size); obtain ⟨g9, c9, rfl⟩ := own_two hown1 (by omega); have qp := put_odr x D D2 y (some ⟨g9, 0, none⟩) c9 _ w7 rfl hown1 eI gN gM hDl hDe.out)) | (go_simp; (first | (go_at_call 26; (with_reducible refine (rp_flag _ _).mono ?_); rintro e w6 ⟨rfl, rfl⟩) | (go_at_call 25; (with_reducible refine qp.mono ?_); rintro e w5 ⟨rfl, b5⟩; have B5 : Below wL.heap.size wL w5 := bCall B7 b5; have BT5 := BT'.below B5 BT'.lt; have z0 := BT5.cell 0; have z1 := BT5.cell 1; have f0 := BT5.frozen 0; have f1 := BT5.frozen 1) | skip))
                    refine shut_go hK KS ?_
                    clear hK K
                    refine wpSched_last ?_
                    first | simp only [List.map_nil] | simp only [List.map_cons, List.map_nil]
                    clear KS
                    go_wp2_with fail
                    refine NoPanic.normal ?_
                    go_wp2_with fail
                    exact ⟨⟨k + 1, D2, by omega, by go_num, hD2, (BT5.set_ 0 _).set_ 1 _, bSet (bSet (bCall hb' B5) hP _) hP _⟩, by simp [intOf]; omega⟩
                  · skip
                    have hD9 : Hid (D = ((((x.base.zip x.leg).map clsR) ++ x.tiers.map tieR) ++ x.lines.flatMap linR) ++ x.orders.map odrR) := Lib.hid (by rw [hD.out, List.take_of_length_le (by omega)])
                    clear x0 x1
                    have t9 : wr.cell? ⟨W.heap.size, 7, none⟩ = some (.slice ae x.ents.length ce) := (KC.out _ (BX2.below hb BX2.lt)).2.2.2.2.2.2.2.1
                    go_wp2_with fail
                    go_loopw [14] (fun i wr => ∃ (k : Nat) (D : List Rw), k ≤ x.ents.length ∧ i = .int .i64 k ∧ Hid (D = (((((x.base.zip x.leg).map clsR) ++ x.tiers.map tieR) ++ x.lines.flatMap linR) ++ x.orders.map odrR) ++ (x.ents.take k).map entR) ∧ Blk wr P 83 #[.string ⟨(shT x D).toArray⟩, .bool (shB D)] ∧ Below w2.heap.size w2 wr) (fun i _ => x.ents.length - (intOf i).toNat)
                    case atStart => exact ⟨0, D, Nat.zero_le _, rfl, Lib.hid (by have := hD9.out; rw [this]; simp), BT, hb⟩
                    case round =>
                      clear t0 t9 BT hb hD9 hD
                      clear hkn hlt
                      obtain ⟨k, D, hkn, rfl, hD, BT, hb⟩ := hrel
                      have t0 : wr.cell? ⟨W.heap.size, 7, none⟩ = some (.slice ae x.ents.length ce) := (KC.out _ (BX2.below hb BX2.lt)).2.2.2.2.2.2.2.1
                      have x0 := BT.cell 0
                      have x1 := BT.cell 1
                      by_cases hlt : k < x.ents.length
                      · skip
                        obtain ⟨y, hy⟩ : ∃ y, Hid (x.ents[k]? = some y) := ⟨_, Lib.hid (List.getElem?_eq_getElem hlt)⟩
                        obtain ⟨b1, o1, rfl, l1, hc⟩ := Cl_at (f := Ent.cl) (fun _ _ => rfl) (hre.below hb) hlt hy.out
                        have c0 := hc 0 (by omega)
                        have c1 := hc 1 (by omega)
                        have c2 := hc 2 (by omega)
                        have c3 := hc 3 (by omega)
                        have c4 := hc 4 (by omega)
                        have c5 := hc 5 (by omega)
                        have c6 := hc 6 (by omega)
                        have c7 := hc 7 (by omega)
                        simp only [Ent.cl, List.getElem?_cons_zero, List.getElem?_cons_succ, Nat.add_zero] at c0 c1 c2 c3 c4 c5 c6 c7
                        have i0 : (0 : Int) ≤ (k : Int) := by omega
                        have i1 : (k : Int) < (x.ents.length : Int) := by omega
                        have hr9 : Hid (x.rows = D ++ entR y :: _) := Lib.hid (by rw [hD.out]; exact split_map hsp4.out hy.out)
                        clear hc
                        go_upto_region 37 with fail
                        have BY := Blk.new wr 67 #[.int .i64 y.no, .int .i64 y.kind, .int .i64 y.a, .int .i64 y.b, .int .i64 y.from_, .int .i64 y.until_, .int .i64 y.known, .int .i64 y.gone] _ rfl
                        have BT' := BT.alloc (.cells #[.int .i64 y.no, .int .i64 y.kind, .int .i64 y.a, .int .i64 y.b, .int .i64 y.from_, .int .i64 y.until_, .int .i64 y.known, .int .i64 y.gone] 67)
                        have hb' := bAl hb (.cells #[.int .i64 y.no, .int .i64 y.kind, .int .i64 y.a, .int .i64 y.b, .int .i64 y.from_, .int .i64 y.until_, .int .i64 y.known, .int .i64 y.gone] 67)
                        have hPg := BT.lt
                        generalize wr.alloc (.cells #[.int .i64 y.no, .int .i64 y.kind, .int .i64 y.a, .int .i64 y.b, .int .i64 y.from_, .int .i64 y.until_, .int .i64 y.known, .int .i64 y.gone] 67) = wL at *
                        clear c0 c1 c2 c3 c4 c5 c6 c7 t0 x0 x1 BT i1 l1 hb
                        generalize wr.heap.size = gl at *
                        clear wr
                        have hDl : (shT x D).length ≤ 1000000000 := shT_len hr9.out hok.out hs32.out hm
                        have q : Calls Tryz.prog 25 #[.agg #[.string ⟨(shT x D).toArray⟩, .bool (shB D)], .string ⟨#[101, 110, 116, 114, 121]⟩, .slice (some ⟨wL.heap.size, 0, none⟩) 8 8] (wL.alloc (.cells #[.int .i64 y.no, .int .i64 y.kind, .int .i64 y.a, .int .i64 y.b, .int .i64 y.from_, .int .i64 y.until_, .int .i64 y.known, .int .i64 y.gone] 3)) _ := put_sh x D (entR y) (some ⟨wL.heap.size, 0, none⟩) 8 8 (wL.alloc (.cells #[.int .i64 y.no, .int .i64 y.kind, .int .i64 y.a, .int .i64 y.b, .int .i64 y.from_, .int .i64 y.until_, .int .i64 y.known, .int .i64 y.gone] 3)) (rd_lit (Blk.new wL 3 #[.int .i64 y.no, .int .i64 y.kind, .int .i64 y.a, .int .i64 y.b, .int .i64 y.from_, .int .i64 y.until_, .int .i64 y.known, .int .i64 y.gone] _ rfl)) rfl (Nat.le_of_ble_eq_true rfl) hDl
                        obtain ⟨D2, hDe⟩ : ∃ D2, Hid (D ++ [entR y] = D2) := ⟨_, Lib.hid rfl⟩
                        rw [hDe.out] at q
                        have hD2 : Hid (D2 = (((((x.base.zip x.leg).map clsR) ++ x.tiers.map tieR) ++ x.lines.flatMap linR) ++ x.orders.map odrR) ++ (x.ents.take (k + 1)).map entR) := Lib.hid (by rw [← hDe.out, take_map _ hy.out, hD.out])
                        obtain ⟨s2, hs2⟩ : ∃ s2 : ByteArray, s2 = ⟨(shT x D2).toArray⟩ := ⟨_, rfl⟩
                        obtain ⟨t2, ht2⟩ : ∃ t2, t2 = shB D2 := ⟨_, rfl⟩
                        rw [← hs2, ← ht2] at q
                        have d0 := BY.cell 0
                        have d1 := BY.cell 1
                        have d2 := BY.cell 2
                        have d3 := BY.cell 3
                        have d4 := BY.cell 4
                        have d5 := BY.cell 5
                        have d6 := BY.cell 6
                        have d7 := BY.cell 7
                        have x0 := BT'.cell 0
                        have x1 := BT'.cell 1
                        clear hy hr9 hDl
                        go_wp2_with (go_at_call 25; (with_reducible refine q.mono ?_); rintro e w5 ⟨rfl, b5⟩; have B5 : Below wL.heap.size wL w5 := bCall (bAl (bRefl _) _) b5; have BT5 := BT'.below B5 BT'.lt; have z0 := BT5.cell 0; have z1 := BT5.cell 1; have f0 := BT5.frozen 0; have f1 := BT5.frozen 1)
                        subst hs2; subst ht2
                        exact ⟨⟨k + 1, D2, by omega, by go_num, hD2, (BT5.set_ 0 _).set_ 1 _, bSet (bSet (bCall hb' B5) hP _) hP _⟩, by simp [intOf]; omega⟩
                      · skip
                        have hD9 : Hid (D = (((((x.base.zip x.leg).map clsR) ++ x.tiers.map tieR) ++ x.lines.flatMap linR) ++ x.orders.map odrR) ++ x.ents.map entR) := Lib.hid (by rw [hD.out, List.take_of_length_le (by omega)])
                        clear x0 x1
                        have t9 : wr.cell? ⟨W.heap.size, 9, none⟩ = some (.slice as_ x.secs.length cs) := (KC.out _ (BX2.below hb BX2.lt)).2.2.2.2.2.2.2.2.2.1
                        go_wp2_with fail
                        go_loopw [16] (fun i wr => ∃ (k : Nat) (D : List Rw), k ≤ x.secs.length ∧ i = .int .i64 k ∧ Hid (D = ((((((x.base.zip x.leg).map clsR) ++ x.tiers.map tieR) ++ x.lines.flatMap linR) ++ x.orders.map odrR) ++ x.ents.map entR) ++ (x.secs.take k).map secR) ∧ Blk wr P 83 #[.string ⟨(shT x D).toArray⟩, .bool (shB D)] ∧ Below w2.heap.size w2 wr) (fun i _ => x.secs.length - (intOf i).toNat)
                        case atStart => exact ⟨0, D, Nat.zero_le _, rfl, Lib.hid (by have := hD9.out; rw [this]; simp), BT, hb⟩
                        case round =>
                          clear t0 t9 BT hb hD9 hD
                          clear hkn hlt
                          obtain ⟨k, D, hkn, rfl, hD, BT, hb⟩ := hrel
                          have t0 : wr.cell? ⟨W.heap.size, 9, none⟩ = some (.slice as_ x.secs.length cs) := (KC.out _ (BX2.below hb BX2.lt)).2.2.2.2.2.2.2.2.2.1
                          have x0 := BT.cell 0
                          have x1 := BT.cell 1
                          by_cases hlt : k < x.secs.length
                          · skip
                            obtain ⟨y, hy⟩ : ∃ y, Hid (x.secs[k]? = some y) := ⟨_, Lib.hid (List.getElem?_eq_getElem hlt)⟩
                            obtain ⟨b1, o1, rfl, l1, hc⟩ := (hrs.below hb).2 (by omega)
                            have c0 := hc k _ (ints_at hy.out)
                            have i0 : (0 : Int) ≤ (k : Int) := by omega
                            have i1 : (k : Int) < (x.secs.length : Int) := by omega
                            have hr9 : Hid (x.rows = D ++ secR y :: _) := Lib.hid (by rw [hD.out]; exact split_map hsp5.out hy.out)
                            have hDl : (shT x D).length ≤ 1000000000 := shT_len hr9.out hok.out hs32.out hm
                            have q : Calls Tryz.prog 25 #[.agg #[.string ⟨(shT x D).toArray⟩, .bool (shB D)], .string ⟨#[115, 101, 99, 114, 101, 116]⟩, .slice (some ⟨wr.heap.size, 0, none⟩) 1 1] ((wr.alloc (.cells #[.int .i64 y] 3)).drew) _ := put_sh x D (secR y) (some ⟨wr.heap.size, 0, none⟩) 1 1 ((wr.alloc (.cells #[.int .i64 y] 3)).drew) (rd_lit (Blk.new wr 3 #[.int .i64 y] _ rfl)) rfl (Nat.le_of_ble_eq_true rfl) hDl
                            obtain ⟨D2, hDe⟩ : ∃ D2, Hid (D ++ [secR y] = D2) := ⟨_, Lib.hid rfl⟩
                            rw [hDe.out] at q
                            have hD2 : Hid (D2 = ((((((x.base.zip x.leg).map clsR) ++ x.tiers.map tieR) ++ x.lines.flatMap linR) ++ x.orders.map odrR) ++ x.ents.map entR) ++ (x.secs.take (k + 1)).map secR) := Lib.hid (by rw [← hDe.out, take_map _ hy.out, hD.out])
                            obtain ⟨s2, hs2⟩ : ∃ s2 : ByteArray, s2 = ⟨(shT x D2).toArray⟩ := ⟨_, rfl⟩
                            obtain ⟨t2, ht2⟩ : ∃ t2, t2 = shB D2 := ⟨_, rfl⟩
                            rw [← hs2, ← ht2] at q
                            have KS : Hid (∀ w', Below wr.heap.size wr w' → w'.cell? ⟨P, 0, none⟩ = some (.string ⟨(shT x D).toArray⟩) ∧ w'.cell? ⟨P, 1, none⟩ = some (.bool (shB D)) ∧ w'.cell? ⟨W.heap.size, 9, none⟩ = some (.slice (some ⟨b1, o1, none⟩) x.secs.length cs) ∧ w'.cell? ⟨b1, o1 + k, none⟩ = some (.int .i64 y)) := Lib.hid (fun w' b => ⟨(b.cell (p := ⟨P, 0, none⟩) BT.lt).trans x0, (b.cell (p := ⟨P, 1, none⟩) BT.lt).trans x1, (b.cell (p := ⟨W.heap.size, 9, none⟩) (BX2.below hb BX2.lt).lt).trans t0, (b.cell (p := ⟨b1, o1 + k, none⟩) (Nat.lt_of_lt_of_le l1 hb.size)).trans c0⟩)
                            clear hc hy hr9 hDl
                            go_upto_region 41 with fail
                            refine wp_region_schB (f := 8) KS [(0, 2), (1, 1), (2, 2), (3, 1), (4, 1), (5, 2), (6, 0), (7, 0), (8, 3)] ?_
                            simp only [pickS, List.getElem?_cons_zero, List.getElem?_cons_succ]
                            refine wpSched_r ?_
                            refine wpSched_t ?_
                            refine wpSched_r ?_
                            refine wpSched_t ?_
                            refine wpSched_t ?_
                            refine wpSched_r ?_
                            refine wpSched_force (fun K hK => ?_)
                            go_simp; (first | (go_at_call 25; (with_reducible refine q.mono ?_); rintro e w5 ⟨rfl, b5⟩; have B5 : Below wr.heap.size wr w5 := bCall (bDr (bAl (bRefl _) _)) b5; have BT5 := BT.below B5 BT.lt; have z0 := BT5.cell 0; have z1 := BT5.cell 1; have f0 := BT5.frozen 0; have f1 := BT5.frozen 1) | skip)
                            refine shut_go hK KS ?_
                            clear hK K
                            refine wpSched_force (fun K hK => ?_)
                            go_simp; (first | (go_at_call 25; (with_reducible refine q.mono ?_); rintro e w5 ⟨rfl, b5⟩; have B5 : Below wr.heap.size wr w5 := bCall (bDr (bAl (bRefl _) _)) b5; have BT5 := BT.below B5 BT.lt; have z0 := BT5.cell 0; have z1 := BT5.cell 1; have f0 := BT5.frozen 0; have f1 := BT5.frozen 1) | skip)
                            refine shut_go hK KS ?_
                            clear hK K
                            refine wpSched_last ?_
                            first | simp only [List.map_nil] | simp only [List.map_cons, List.map_nil]
                            clear KS
                            go_wp2_with fail
                            refine NoPanic.normal ?_
                            go_wp2_with fail
                            subst hs2; subst ht2
                            exact ⟨⟨k + 1, D2, by omega, by go_num, hD2, (BT5.set_ 0 _).set_ 1 _, bSet (bSet (bCall hb B5) hP _) hP _⟩, by simp [intOf]; omega⟩
                          · skip
                            have hD9 : Hid (D = ((((((x.base.zip x.leg).map clsR) ++ x.tiers.map tieR) ++ x.lines.flatMap linR) ++ x.orders.map odrR) ++ x.ents.map entR) ++ x.secs.map secR) := Lib.hid (by rw [hD.out, List.take_of_length_le (by omega)])
                            clear x0 x1
                            have t9 : wr.cell? ⟨W.heap.size, 42, none⟩ = some (.slice af x.faults.length cf) := (KC.out _ (BX2.below hb BX2.lt)).2.2.2.2.2.2.2.2.2.2
                            go_wp2_with fail
                            go_loopw [17] (fun i wr => ∃ (k : Nat) (D : List Rw), k ≤ x.faults.length ∧ i = .int .i64 k ∧ Hid (D = (((((((x.base.zip x.leg).map clsR) ++ x.tiers.map tieR) ++ x.lines.flatMap linR) ++ x.orders.map odrR) ++ x.ents.map entR) ++ x.secs.map secR) ++ (x.faults.take k).map slpR) ∧ Blk wr P 83 #[.string ⟨(shT x D).toArray⟩, .bool (shB D)] ∧ Below w2.heap.size w2 wr) (fun i _ => x.faults.length - (intOf i).toNat)
                            case atStart => exact ⟨0, D, Nat.zero_le _, rfl, Lib.hid (by have := hD9.out; rw [this]; simp), BT, hb⟩
                            case round =>
                              clear t0 t9 BT hb hD9 hD
                              clear hkn hlt
                              obtain ⟨k, D, hkn, rfl, hD, BT, hb⟩ := hrel
                              have t0 : wr.cell? ⟨W.heap.size, 42, none⟩ = some (.slice af x.faults.length cf) := (KC.out _ (BX2.below hb BX2.lt)).2.2.2.2.2.2.2.2.2.2
                              have x0 := BT.cell 0
                              have x1 := BT.cell 1
                              by_cases hlt : k < x.faults.length
                              · skip
                                obtain ⟨y, hy⟩ : ∃ y, Hid (x.faults[k]? = some y) := ⟨_, Lib.hid (List.getElem?_eq_getElem hlt)⟩
                                obtain ⟨b1, o1, rfl, l1, hc⟩ := Cl_at (f := Slp.cl) (fun _ _ => rfl) (hrf.below hb) hlt hy.out
                                have c0 := hc 0 (by omega)
                                have c1 := hc 1 (by omega)
                                have c2 := hc 2 (by omega)
                                have c3 := hc 3 (by omega)
                                simp only [Slp.cl, List.getElem?_cons_zero, List.getElem?_cons_succ, Nat.add_zero] at c0 c1 c2 c3
                                have i0 : (0 : Int) ≤ (k : Int) := by omega
                                have i1 : (k : Int) < (x.faults.length : Int) := by omega
                                have hr9 : Hid (x.rows = D ++ slpR y :: _) := Lib.hid (by rw [hD.out]; exact split_map hsp6.out hy.out)
                                clear hc
                                go_upto_region 46 with fail
                                have BY := Blk.new wr 71 #[.int .i64 y.run, .int .i64 y.leg, .int .i64 y.kind, .int .i64 y.at_] _ rfl
                                have BT' := BT.alloc (.cells #[.int .i64 y.run, .int .i64 y.leg, .int .i64 y.kind, .int .i64 y.at_] 71)
                                have hb' := bAl hb (.cells #[.int .i64 y.run, .int .i64 y.leg, .int .i64 y.kind, .int .i64 y.at_] 71)
                                have hPg := BT.lt
                                generalize wr.alloc (.cells #[.int .i64 y.run, .int .i64 y.leg, .int .i64 y.kind, .int .i64 y.at_] 71) = wL at *
                                clear c0 c1 c2 c3 t0 x0 x1 BT i1 l1 hb
                                generalize wr.heap.size = gl at *
                                clear wr
                                have hDl : (shT x D).length ≤ 1000000000 := shT_len hr9.out hok.out hs32.out hm
                                have q : Calls Tryz.prog 25 #[.agg #[.string ⟨(shT x D).toArray⟩, .bool (shB D)], .string ⟨#[102, 97, 117, 108, 116]⟩, .slice (some ⟨wL.heap.size, 0, none⟩) 4 4] (wL.alloc (.cells #[.int .i64 y.run, .int .i64 y.leg, .int .i64 y.kind, .int .i64 y.at_] 3)) _ := put_sh x D (slpR y) (some ⟨wL.heap.size, 0, none⟩) 4 4 (wL.alloc (.cells #[.int .i64 y.run, .int .i64 y.leg, .int .i64 y.kind, .int .i64 y.at_] 3)) (rd_lit (Blk.new wL 3 #[.int .i64 y.run, .int .i64 y.leg, .int .i64 y.kind, .int .i64 y.at_] _ rfl)) rfl (Nat.le_of_ble_eq_true rfl) hDl
                                obtain ⟨D2, hDe⟩ : ∃ D2, Hid (D ++ [slpR y] = D2) := ⟨_, Lib.hid rfl⟩
                                rw [hDe.out] at q
                                have hD2 : Hid (D2 = (((((((x.base.zip x.leg).map clsR) ++ x.tiers.map tieR) ++ x.lines.flatMap linR) ++ x.orders.map odrR) ++ x.ents.map entR) ++ x.secs.map secR) ++ (x.faults.take (k + 1)).map slpR) := Lib.hid (by rw [← hDe.out, take_map _ hy.out, hD.out])
                                obtain ⟨s2, hs2⟩ : ∃ s2 : ByteArray, s2 = ⟨(shT x D2).toArray⟩ := ⟨_, rfl⟩
                                obtain ⟨t2, ht2⟩ : ∃ t2, t2 = shB D2 := ⟨_, rfl⟩
                                rw [← hs2, ← ht2] at q
                                have d0 := BY.cell 0
                                have d1 := BY.cell 1
                                have d2 := BY.cell 2
                                have d3 := BY.cell 3
                                have x0 := BT'.cell 0
                                have x1 := BT'.cell 1
                                clear hy hr9 hDl
                                go_wp2_with (go_at_call 25; (with_reducible refine q.mono ?_); rintro e w5 ⟨rfl, b5⟩; have B5 : Below wL.heap.size wL w5 := bCall (bAl (bRefl _) _) b5; have BT5 := BT'.below B5 BT'.lt; have z0 := BT5.cell 0; have z1 := BT5.cell 1; have f0 := BT5.frozen 0; have f1 := BT5.frozen 1)
                                subst hs2; subst ht2
                                exact ⟨⟨k + 1, D2, by omega, by go_num, hD2, (BT5.set_ 0 _).set_ 1 _, bSet (bSet (bCall hb' B5) hP _) hP _⟩, by simp [intOf]; omega⟩
                              · skip
                                have hD9 : Hid (D = x.rows) := Lib.hid (by rw [hD.out, List.take_of_length_le (by omega)]; unfold Wld.rows; simp)
                                clear x0 x1
                                obtain rfl := hD9.out
                                have x0 := BT.cell 0
                                have x1 := BT.cell 1
                                have h3 := hgo3.out.1
                                have h4 := hgo3.out.2
                                clear hgo3 hD hD9
                                have hbW := bCall hB2.out hb
                                cases hsb : shB x.rows with
                                | true =>
                                  obtain rfl := h3 hsb
                                  rw [hsb] at x1
                                  clear h3 h4 hsb BT
                                  go_wp2_with fail
                                  go_ret2
                                  exact ⟨rfl, hbW⟩
                                | false =>
                                  obtain rfl := h4 hsb
                                  rw [hsb] at x1
                                  clear h3 h4 hsb BT
                                  go_wp2_with fail
                                  go_ret2
                                  exact ⟨rfl, hbW⟩
end Go.Proofs.YtmbopkcmbiommaaGreatDoor

/-
  A world that came in, with the room of its slices; frankinglaw59.ReportsSpec, walked.
-/
namespace Go.Proofs.YtmbopkcmbiommaaGreatDoor
open Go.ChangeShapes Go.WideShapes Go.ChangeAt Go.RowKit Go.Deep

set_option maxRecDepth 100000
section
variable {H : Type} {enc : TypeId × Value → H} {w : World} {base : Nat} {spare : Nat → Bool} {held : Bool}
theorem io_intsC {n : Nat} {cs : List Value} {y : DataW H × List MemPlace} (h : DataW.trod enc Tryz.prog w base spare held n 25 cs = some y) (hw : Light Tryz.prog 25 y.1) : ∃ A c, ∃ l : List Int, cs = [.slice A l.length c] ∧ Rd w w.heap.size 1 A l.length (ints l) ∧ l.length ≤ c := by
  obtain ⟨A, c, l, rfl, h1, h2, -, h4, h5⟩ := open_slice_w (f := fun z : Int => [Value.int .i64 z]) (Pr := fun _ => True) Tryz.underlying25 k_int (by omega) (fun n cs y h _ => by obtain ⟨z, e, hz⟩ := io_int h; exact ⟨z, e, rfl, trivial⟩) h hw
  rw [ints_each] at h4
  exact ⟨A, c, l, rfl, h4, h1⟩
theorem io_lineC (n : Nat) (cs : List Value) (y : DataW H × List MemPlace) (h : DataW.trod enc Tryz.prog w base spare held n 56 cs = some y) (hw : Light Tryz.prog 56 y.1) : ∃ p : LS × Lin, cs = p.1.cl p.2 ∧ (p.1.cl p.2).length = 6 ∧ (LinAt w w.heap.size p.1 p.2 ∧ p.2.offs.length ≤ p.1.c0) := by
  obtain ⟨hl, m, hf⟩ := open_struct_w Tryz.underlying56 h hw
  rw [k_line] at hl
  obtain ⟨y0, q0, l0⟩ := hf 0 _ rfl
  obtain ⟨y1, q1, l1⟩ := hf 1 _ rfl
  obtain ⟨y2, q2, l2⟩ := hf 2 _ rfl
  obtain ⟨y3, q3, l3⟩ := hf 3 _ rfl
  obtain ⟨y4, q4, l4⟩ := hf 4 _ rfl
  obtain ⟨y5, q5, l5⟩ := hf 5 _ rfl
  simp only [List.getElem_toArray, List.getElem_cons_zero, List.getElem_cons_succ] at q0 q1 q2 q3 q4 q5 l0 l1 l2 l3 l4 l5
  rw [k_ints] at q0 q1
  rw [k_int] at q2 q3
  rw [k_rules] at q4
  rw [k_gaps] at q5
  obtain ⟨A0, c0, x0, e0, r0, g0⟩ := io_intsC q0 l0
  obtain ⟨A1, c1, x1, e1, r1⟩ := io_ints q1 l1
  obtain ⟨a2, e2, -⟩ := io_int q2
  obtain ⟨a3, e3, -⟩ := io_int q3
  obtain ⟨A4, c4, x4, e4, -, -, -, r4, -⟩ := open_slice_w Tryz.underlying53 k_rule (by omega) io_rule q4 l4
  obtain ⟨A5, c5, x5, e5, -, -, -, r5, -⟩ := open_slice_w Tryz.underlying54 k_gap (by omega) io_gap q5 l5
  refine ⟨(⟨A0, A1, A4, A5, c0, c1, c4, c5⟩, ⟨x0, x1, a2, a3, x4, x5⟩), ?_, rfl, ⟨⟨r0, r1, r4, r5⟩, g0⟩⟩
  rw [← List.drop_zero (l := cs), drop_parts cs 0 1, e0, drop_parts cs (0 + 1) 1, e1, drop_parts cs (0 + 1 + 1) 1, e2, drop_parts cs (0 + 1 + 1 + 1) 1, e3, drop_parts cs (0 + 1 + 1 + 1 + 1) 1, e4, drop_parts cs (0 + 1 + 1 + 1 + 1 + 1) 1, e5, List.drop_eq_nil_of_le (by omega)]
  rfl
theorem io_tableC {n : Nat} {cs : List Value} {y : DataW H × List MemPlace} (h : DataW.trod enc Tryz.prog w base spare held n 24 cs = some y) (hw : Light Tryz.prog 24 y.1) : ∃ (a : Int) (A : Option Addr) (c : Nat) (l : List (LS × Lin)), cs = [.int .i64 a, .slice A l.length c] ∧ Rd w w.heap.size 6 A l.length (l.flatMap (fun p => p.1.cl p.2)) ∧ ∀ p ∈ l, LinAt w w.heap.size p.1 p.2 ∧ p.2.offs.length ≤ p.1.c0 := by
  obtain ⟨hl, m, hf⟩ := open_struct_w Tryz.underlying24 h hw
  rw [k_table] at hl
  obtain ⟨y0, q0, l0⟩ := hf 0 _ rfl
  obtain ⟨y1, q1, l1⟩ := hf 1 _ rfl
  simp only [List.getElem_toArray, List.getElem_cons_zero, List.getElem_cons_succ] at q0 q1 l0 l1
  rw [k_int] at q0
  rw [k_lines] at q1
  obtain ⟨a, e0, -⟩ := io_int q0
  obtain ⟨A, c, l, e1, -, -, -, r1, k1⟩ := open_slice_w (f := fun p : LS × Lin => p.1.cl p.2) Tryz.underlying22 k_line (by omega) io_lineC q1 l1
  refine ⟨a, A, c, l, ?_, r1, fun p hp => (k1 p hp).2⟩
  rw [← List.drop_zero (l := cs), drop_parts cs 0 1, e0, drop_parts cs (0 + 1) 1, e1, List.drop_eq_nil_of_le (by omega)]
  rfl
theorem io_worldC {n : Nat} {cs : List Value} {y : DataW H × List MemPlace} (h : DataW.trod enc Tryz.prog w base spare held n 35 cs = some y) (hw : Light Tryz.prog 35 y.1) : ∃ (s : WS) (x : Wld), cs = s.cl x ∧ WldAt w w.heap.size s x ∧ LinsC w w.heap.size s.al x.lines ∧ x.io := by
  obtain ⟨hl, m, hf⟩ := open_struct_w Tryz.underlying35 h hw
  rw [k_world] at hl
  obtain ⟨y0, q0, l0⟩ := hf 0 _ rfl
  obtain ⟨y1, q1, l1⟩ := hf 1 _ rfl
  obtain ⟨y2, q2, l2⟩ := hf 2 _ rfl
  obtain ⟨y3, q3, l3⟩ := hf 3 _ rfl
  obtain ⟨y4, q4, l4⟩ := hf 4 _ rfl
  obtain ⟨y5, q5, l5⟩ := hf 5 _ rfl
  obtain ⟨y6, q6, l6⟩ := hf 6 _ rfl
  obtain ⟨y7, q7, l7⟩ := hf 7 _ rfl
  obtain ⟨y8, q8, l8⟩ := hf 8 _ rfl
  simp only [List.getElem_toArray, List.getElem_cons_zero, List.getElem_cons_succ] at q0 q1 q2 q3 q4 q5 q6 q7 q8 l0 l1 l2 l4 l6 l7 l8
  rw [k_table] at q0
  rw [k_tariff] at q1
  rw [k_orders] at q2
  rw [k_int] at q3 q5
  rw [k_entries] at q4
  rw [k_ints] at q6
  rw [k_digest] at q7
  rw [k_slips] at q8
  obtain ⟨a0, A0, c0, x0, e0, r0, i0⟩ := io_tableC q0 l0
  obtain ⟨B0, B1, B2, d0, d1, d2, z0, z1, z2, e1, r1, r1b, r1c⟩ := io_tariff q1 l1
  obtain ⟨A2, c2, x2, e2, -, -, -, r2, i2⟩ := open_slice_w (f := fun p : Odr × Value => p.1.cl p.2) Tryz.underlying29 k_order (by omega) io_order q2 l2
  obtain ⟨a3, e3, -⟩ := io_int q3
  obtain ⟨A4, c4, x4, e4, -, -, -, r4, i4⟩ := open_slice_w Tryz.underlying30 k_entry (by omega) io_entry q4 l4
  obtain ⟨a5, e5, -⟩ := io_int q5
  obtain ⟨A6, c6, x6, e6, r6⟩ := io_ints q6 l6
  obtain ⟨sd, e7, s7, i7⟩ := io_digest q7 l7
  obtain ⟨A8, c8, x8, e8, -, -, -, r8, -⟩ := open_slice_w Tryz.underlying33 k_slip (by omega) io_slip q8 l8
  refine ⟨⟨A0, B0, B1, B2, A2, A4, A6, A8, c0, d0, d1, d2, c2, c4, c6, c8⟩, ⟨a0, x0.map (·.2), z0, z1, z2, x2.map (·.1), a3, x4, a5, x6, sd, x8⟩, ?_, ⟨⟨x0.map (·.1), by simp, ?_, fun k y hy => ?_⟩, r1, r1b, r1c, ⟨x2.map (·.2), by simp, ?_, fun k y hy => ?_⟩, r4, r6, r8⟩, ⟨x0.map (·.1), by simp, ?_, fun k y hy => ?_⟩, ⟨fun o ho => ?_, fun e he => (i4 e he).2, s7, i7⟩⟩
  · rw [← List.drop_zero (l := cs), drop_parts cs 0 2, e0, drop_parts cs (0 + 2) 3, e1, drop_parts cs (0 + 2 + 3) 1, e2, drop_parts cs (0 + 2 + 3 + 1) 1, e3, drop_parts cs (0 + 2 + 3 + 1 + 1) 1, e4, drop_parts cs (0 + 2 + 3 + 1 + 1 + 1) 1, e5, drop_parts cs (0 + 2 + 3 + 1 + 1 + 1 + 1) 1, e6, drop_parts cs (0 + 2 + 3 + 1 + 1 + 1 + 1 + 1) 32, e7, drop_parts cs (0 + 2 + 3 + 1 + 1 + 1 + 1 + 1 + 32) 1, e8, List.drop_eq_nil_of_le (by omega)]
    unfold WS.cl
    simp only [List.length_map]
    rfl
  · show Rd w w.heap.size 6 A0 (x0.map (·.2)).length (linsCl (x0.map (·.1)) (x0.map (·.2)))
    unfold linsCl
    rw [zip_both, List.length_map]
    exact r0
  · have hy : (x0.map (·.2))[k]? = some y := hy
    rw [List.getElem?_map] at hy
    obtain ⟨p, hp, rfl⟩ := Option.map_eq_some_iff.1 hy
    exact ⟨p.1, by rw [List.getElem?_map, hp]; rfl, (i0 p (List.mem_of_getElem? hp)).1⟩
  · show Rd w w.heap.size 11 A2 (x2.map (·.1)).length (odrsCl (x2.map (·.1)) (x2.map (·.2)))
    unfold odrsCl
    rw [zip_both, List.length_map]
    exact r2
  · have hy : (x2.map (·.1))[k]? = some y := hy
    rw [List.getElem?_map] at hy
    obtain ⟨p, hp, rfl⟩ := Option.map_eq_some_iff.1 hy
    obtain ⟨_, _, A, c, e, r⟩ := i2 p (List.mem_of_getElem? hp)
    exact ⟨A, c, by rw [List.getElem?_map, hp, ← e]; rfl, r⟩
  · show Rd w w.heap.size 6 A0 (x0.map (·.2)).length (linsCl (x0.map (·.1)) (x0.map (·.2)))
    unfold linsCl
    rw [zip_both, List.length_map]
    exact r0
  · have hy : (x0.map (·.2))[k]? = some y := hy
    rw [List.getElem?_map] at hy
    obtain ⟨p, hp, rfl⟩ := Option.map_eq_some_iff.1 hy
    exact ⟨p.1, by rw [List.getElem?_map, hp]; rfl, i0 p (List.mem_of_getElem? hp)⟩
  · have ho : o ∈ x2.map (·.1) := ho
    obtain ⟨p, hp, rfl⟩ := List.mem_map.1 ho
    exact (i2 p hp).2.1
end
set_option maxHeartbeats 8000000 in
theorem lw_spec (s : WS) (x : Wld) (W : World) (hx : WldAt W W.heap.size s x) (hC : LinsC W W.heap.size s.al x.lines) (io : x.io) (hG : LibG W.heap.size W) :
    Calls Tryz.prog 3 #[.agg (s.cl x).toArray] W (Ret (.bool true) W) := by
  have hb := bAl (bRefl W) (.cells (s.cl x).toArray 35)
  have BX := Blk.new W 35 (s.cl x).toArray _ rfl
  have LL : Hid (∀ w' g, Blk w' g 35 (s.cl x).toArray → (Instr.loadAt 35 (.pointer (some ⟨g, 0, none⟩))).run Tryz.prog w' = .ok (.agg (s.cl x).toArray) w') := Lib.hid (fun _ _ B => whole_ld io.seed B)
  have hG1 : Hid (∀ w, Below W.heap.size W w → LibG w.heap.size w) := Lib.hid (fun w b => (hG.below b).more b.size)
  have qs : Hid (∀ w, Below W.heap.size W w → Calls Tryz.prog 8 #[] w (Ret (.bool true) w)) := Lib.hid (fun w b => law_sane w (hG1.out w b))
  have qf : Hid (∀ w, Below W.heap.size W w → Calls Tryz.prog 9 #[.agg (s.cl x).toArray] w (Ret (.bool (fewW x)) w)) := Lib.hid (fun w b => ref_few s x w ((hx.below b).more b.size) io.seed)
  have qp : Hid (∀ w, Below W.heap.size W w → fewW x = true → ∀ t e, printV x = (t, e) → Calls Tryz.prog 10 #[.agg (s.cl x).toArray] w (Ret (.tuple #[.string ⟨t.toArray⟩, .int .i64 e]) w)) := Lib.hid (fun w b hf t e hp => by
    have := rep_print s x w ((hx.below b).more b.size) (few_small hf io) io.byte (Nat.le_trans (few_room hf) (Nat.le_of_ble_eq_true rfl)) (hG1.out w b)
    rw [hp] at this
    exact this)
  have qr : Hid (∀ w, Below W.heap.size W w → fewW x = true → ∀ t e, printV x = (t, e) → Calls Tryz.prog 11 #[.agg (s.cl x).toArray] w (Ret (.tuple #[.string ⟨t.toArray⟩, .int .i64 e]) w)) := Lib.hid (fun w b hf t e hp => by
    have := ref_print s x w ((hx.below b).more b.size) ((hC.below b).more b.size) (few_small hf io) io.byte (Nat.le_trans (few_room hf) (Nat.le_of_ble_eq_true rfl))
    rw [hp] at this
    exact this)
  obtain ⟨Y, hY⟩ : ∃ Y, Hid ((s.cl x).toArray = Y) := ⟨_, Lib.hid rfl⟩
  rw [hY.out] at hb BX LL qf qp qr ⊢
  clear hx hG hC
  go_enter Tryz.func3, Tryz.ntmps3
  go_upto_region 1 with fail
  generalize W.alloc (.cells Y 35) = w1 at *
  go_upto_region 3 with (go_at_call 8; (with_reducible refine (qs.out _ hb).mono ?_); rintro e w2 ⟨rfl, b2⟩)
  have hb2 := bCall hb b2
  have BX2 := BX.below b2 BX.lt
  clear BX b2 qs hb
  apply wp_region_lit
  refine wpList_loadG (by rfl) (by rfl) (by rfl) (LL.out _ _ BX2) ?_
  simp only [Act.put]
  cases hf : fewW x with
  | false =>
    rw [hf] at qf
    replace hf := Lib.hid hf
    go_wp2_with (go_at_call 9; (with_reducible refine (qf.out _ hb2).mono ?_); rintro e w3 ⟨rfl, b3⟩)
    go_ret
    exact ⟨rfl, bCall hb2 b3⟩
  | true =>
    rw [hf] at qf
    obtain ⟨⟨t, e⟩, hp⟩ : ∃ p, Hid (printV x = p) := ⟨_, Lib.hid rfl⟩
    replace qp := Lib.hid (fun w b => qp.out w b hf t e hp.out)
    replace qr := Lib.hid (fun w b => qr.out w b hf t e hp.out)
    replace hf := Lib.hid hf
    go_upto_region 5 with (go_at_call 9; (with_reducible refine (qf.out _ hb2).mono ?_); rintro e w3 ⟨rfl, b3⟩)
    clear qf
    have hb3 := bCall hb2 b3
    have BX3 := BX2.below b3 BX2.lt
    clear BX2 hb2 b3
    have qp1 := qp.out w3 hb3
    apply wp_region_lit
    refine wpList_loadG (by rfl) (by rfl) (by rfl) (LL.out _ _ BX3) ?_
    simp only [Act.put]
    generalize (⟨t.toArray⟩ : ByteArray) = st at *
    go_upto_region 6 with (go_at_call 10; (with_reducible refine qp1.mono ?_); rintro e w4 ⟨rfl, b4⟩)
    have hb4 := bCall hb3 b4
    have BX4 := BX3.below b4 BX3.lt
    clear BX3 hb3 b4 qp1
    have qr1 := qr.out w4 hb4
    apply wp_region_lit
    refine wpList_loadG (by rfl) (by rfl) (by rfl) (LL.out _ _ BX4) ?_
    simp only [Act.put]
    go_wp2_with (go_at_call 11; (with_reducible refine qr1.mono ?_); rintro e w5 ⟨rfl, b5⟩)
    go_ret
    exact ⟨rfl, bCall hb4 b5⟩
end Go.Proofs.YtmbopkcmbiommaaGreatDoor
