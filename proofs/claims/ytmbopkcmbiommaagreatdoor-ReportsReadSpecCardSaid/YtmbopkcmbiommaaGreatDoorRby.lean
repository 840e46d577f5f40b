/- reports.printer: world; walked. -/
import Derived.Test.YtmbopkcmbiommaaGreatDoorRbx
set_option maxRecDepth 1000000
set_option maxHeartbeats 16000000
namespace Go.Proofs.YtmbopkcmbiommaaGreatDoor
open Go Go.RowKit
def WPost (x : Wld) (b : Nat) (W : World) (e : Ending) (w' : World) : Prop := (if x.okW = true then e = .returned (.bool true) ∧ PAt w' b x.text else e = .returned (.bool false)) ∧ Below b W w'
theorem WPost.no {x : Wld} {b : Nat} {W w : World} (h : x.okW = false) (k : Below b W w) : WPost x b W (.returned (.bool false)) w := by
  refine ⟨?_, k⟩
  rw [h]
  rfl
theorem WPost.yes {x : Wld} {b : Nat} {W w : World} (h : x.okW = true) (hp : PAt w b x.text) (k : Below b W w) : WPost x b W (.returned (.bool true)) w := by
  refine ⟨?_, k⟩
  rw [if_pos h]
  exact ⟨rfl, hp⟩
theorem set_back {w : World} {g : Nat} {T : TypeId} {v : Value} (h : Blk w g T #[v]) : w.setCell ⟨g, 0, none⟩ v = w := by
  rw [setCell_eq_setRow w g 0 #[v] T (0, 0) v h]
  exact setRow_self w g _ T (0, 0) h
theorem numsT_app (a c : List Int) : numsT (a ++ c) = numsT a ++ numsT c := by unfold numsT; rw [List.flatMap_append]
theorem odr_txt (y : Odr) (A : Option Addr) (c : Nat) : itmsT [.num y.from_, .num y.person, .num y.dest, .num y.cls, .num y.after, .num y.by_, .num y.crowd, .num y.pay, .flag y.back, .num y.els, .nums A c y.ag] = numsT (odrR y).2 := by
  unfold odrR
  rw [numsT_app]
  simp [itmsT, Itm.txt, numsT]
theorem odr_good (y : Odr) (A : Option Addr) (c : Nat) : [Itm.num y.from_, .num y.person, .num y.dest, .num y.cls, .num y.after, .num y.by_, .num y.crowd, .num y.pay, .flag y.back, .num y.els, .nums A c y.ag].all Itm.good = okR (odrR y) := by
  unfold odrR okR
  simp [Itm.good, flagI_ok]
theorem odr_wt (y : Odr) (A : Option Addr) (c : Nat) : itmsW [.num y.from_, .num y.person, .num y.dest, .num y.cls, .num y.after, .num y.by_, .num y.crowd, .num y.pay, .flag y.back, .num y.els, .nums A c y.ag] = 15 * (odrR y).2.length := by
  unfold odrR
  simp [itmsW, Itm.wt]
  omega
theorem odr_At {w : World} {b : Nat} {y : Odr} {A : Option Addr} {c : Nat} (h : Rd w b 1 A y.ag.length (ints y.ag)) (hn : y.ag.length ≤ 1000000) : ∀ i ∈ [Itm.num y.from_, .num y.person, .num y.dest, .num y.cls, .num y.after, .num y.by_, .num y.crowd, .num y.pay, .flag y.back, .num y.els, .nums A c y.ag], i.At w b := by
  intro i hi
  simp only [List.mem_cons, List.not_mem_nil, or_false] at hi
  rcases hi with rfl | rfl | rfl | rfl | rfl | rfl | rfl | rfl | rfl | rfl | rfl
  all_goals first | exact trivial | exact ⟨h, hn⟩
theorem line_txt (y : Lin) (A B : Option Addr) (c d : Nat) : itmsT [.num y.cls, .num y.room, .num (y.offs.length : Int), .nums A c y.offs, .nums B d y.legs] = numsT (lineR y).2 := by
  unfold lineR
  rw [numsT_app, numsT_app]
  simp [itmsT, Itm.txt, numsT]
theorem line_good (y : Lin) (A B : Option Addr) (c d : Nat) : [Itm.num y.cls, .num y.room, .num (y.offs.length : Int), .nums A c y.offs, .nums B d y.legs].all Itm.good = okR (lineR y) := by
  unfold lineR okR
  simp [Itm.good]
theorem line_wt (y : Lin) (A B : Option Addr) (c d : Nat) : itmsW [.num y.cls, .num y.room, .num (y.offs.length : Int), .nums A c y.offs, .nums B d y.legs] = 15 * (lineR y).2.length := by
  unfold lineR
  simp [itmsW, Itm.wt]
  omega
theorem line_At {w : World} {b : Nat} {y : Lin} {A B : Option Addr} {c d : Nat} (h : Rd w b 1 A y.offs.length (ints y.offs)) (hn : y.offs.length ≤ 1000000) (h2 : Rd w b 1 B y.legs.length (ints y.legs)) (hn2 : y.legs.length ≤ 1000000) : ∀ i ∈ [Itm.num y.cls, .num y.room, .num (y.offs.length : Int), .nums A c y.offs, .nums B d y.legs], i.At w b := by
  intro i hi
  simp only [List.mem_cons, List.not_mem_nil, or_false] at hi
  rcases hi with rfl | rfl | rfl | rfl | rfl
  all_goals first | exact trivial | exact ⟨h, hn⟩ | exact ⟨h2, hn2⟩
theorem pr_world (b : Nat) (s : WS) (x : Wld) (W : World) (hP : PAt W b []) (hx : WldAt W b s x) (hs : x.small) (hby : ∀ d ∈ x.seed, d < 256) (hlen : x.base.length = x.leg.length) (hm : x.room ≤ 1000000000) (hG : LibG b W) :
    Calls Tryz.prog 19 #[.pointer (some ⟨b, 0, none⟩), .agg (s.cl x).toArray] W (WPost x b W) := by
  have hbW := hP.lt
  have BX := (Blk.new W 35 (s.cl x).toArray _ rfl).alloc (.cells #[.bool true] 4)
  have BK := Blk.new (W.alloc (.cells (s.cl x).toArray 35)) 4 #[.bool true] _ rfl
  rw [show (W.alloc (.cells (s.cl x).toArray 35)).heap.size = W.heap.size + 1 by simp] at BK
  have hb := bAl (bAl (bRefl W) (.cells (s.cl x).toArray 35)) (.cells #[.bool true] 4)
  have A0 : (s.cl x).toArray[0]? = some _ := ws_at (k := 0) rfl
  have A1 : (s.cl x).toArray[1]? = some _ := ws_at (k := 1) rfl
  have A2 : (s.cl x).toArray[2]? = some _ := ws_at (k := 2) rfl
  have A3 : (s.cl x).toArray[3]? = some _ := ws_at (k := 3) rfl
  have A4 : (s.cl x).toArray[4]? = some _ := ws_at (k := 4) rfl
  have A5 : (s.cl x).toArray[5]? = some _ := ws_at (k := 5) rfl
  have A6 : (s.cl x).toArray[6]? = some _ := ws_at (k := 6) rfl
  have A7 : (s.cl x).toArray[7]? = some _ := ws_at (k := 7) rfl
  have A8 : (s.cl x).toArray[8]? = some _ := ws_at (k := 8) rfl
  have A9 : (s.cl x).toArray[9]? = some _ := ws_at (k := 9) rfl
  have A10 : (s.cl x).toArray[42]? = some _ := ws_last hs.seed
  have SD : Hid (∀ w', Blk w' W.heap.size 35 (s.cl x).toArray → (Instr.loadAt 32 (.pointer (some ⟨W.heap.size, 10, none⟩))).run Tryz.prog w' = .ok (.agg (byts x.seed).toArray) w') := Lib.hid (fun w' h => ws_seed hs.seed h)
  have hsd : (byts x.seed).length = 32 := by rw [byts_length, hs.seed]
  generalize (s.cl x).toArray = X at *
  have hrb := hx.rb
  have hrg := hx.rg
  have hrt := hx.rt
  have hre := hx.re
  have hrs := hx.rs
  have hrf := hx.rf
  obtain ⟨la, la1, la2, la3⟩ := hx.rl
  obtain ⟨va, va1, va2, va3⟩ := hx.ro
  clear hx
  obtain ⟨al, ab, ag, at_, ao, ae, as_, af, cl_, cb, cg, ct, co, ce, cs, cf⟩ := s
  simp only at A0 A1 A2 A3 A4 A5 A6 A7 A8 A9 A10 hrb hrg hrt hre hrs hrf la2 va2
  replace hlen := Lib.hid hlen
  have hn0 := hs.lines
  have hn1 := hs.base
  have hn2 := hs.leg
  have hn3 := hs.tiers
  have hn4 := hs.orders
  have hn5 := hs.ents
  have hn6 := hs.secs
  have hn7 := hs.faults
  go_enter_defers Tryz.func19, Tryz.ntmps19
  go_upto_region 3 with fail
  have hb1 := hb
  generalize (W.alloc (.cells X 35)).alloc (.cells #[.bool true] 4) = w1 at *
  have b1 := hb1
  have BX1 := BX
  have BK1 := BK
  clear BX BK hb hb1
  have a6 := (BX1.cell 6).trans A6
  have a8 := (BX1.cell 8).trans A8
  have a0 := (BX1.cell 0).trans A0
  apply wp_region_lit
  iterate 36 go_step
  refine wpList_loadG (by rfl) (by rfl) (by rfl) (SD.out _ BX1) ?_
  simp only [Act.put]
  have hP1 := hP.of_below b1
  have hlt1 := hP1.lt
  have k1 := PKeep.of b1 (Nat.le_of_lt hbW) rfl
  have hitms : Hid (itmsT [.num x.people, .num x.covers, .num x.offs, .seed x.seed] = numsT [x.people, x.covers, x.offs] ++ (32 :: hexT x.seed)) := Lib.hid (by unfold itmsT numsT Itm.txt; simp)
  have hgood : Hid ([Itm.num x.people, .num x.covers, .num x.offs, .seed x.seed].all Itm.good = okHead x) := Lib.hid (by unfold okHead Itm.good; simp)
  have q : Calls Tryz.prog 43 #[.pointer (some ⟨b, 0, none⟩), .string ⟨#[119, 111, 114, 108, 100]⟩, .slice (some ⟨w1.heap.size, 0, none⟩) 4 4] (w1.alloc (.cells #[.iface 3 (.int .i64 x.people), .iface 3 (.int .i64 x.covers), .iface 3 (.int .i64 x.offs), .iface 32 (.agg (byts x.seed).toArray)] 20)) (PPost (okHead x) b (headT x) (w1.alloc (.cells #[.iface 3 (.int .i64 x.people), .iface 3 (.int .i64 x.covers), .iface 3 (.int .i64 x.offs), .iface 32 (.agg (byts x.seed).toArray)] 20))) := by
    have := pr_put b w1.heap.size [] ⟨#[119, 111, 114, 108, 100]⟩ [.num x.people, .num x.covers, .num x.offs, .seed x.seed] (w1.alloc (.cells #[.iface 3 (.int .i64 x.people), .iface 3 (.int .i64 x.covers), .iface 3 (.int .i64 x.offs), .iface 32 (.agg (byts x.seed).toArray)] 20)) (hP1.of_below (bAl (bRefl _) _)) (Blk.new w1 _ _ _ rfl) (by omega) (fun y hy => by
      simp only [List.mem_cons, List.not_mem_nil, or_false] at hy
      rcases hy with rfl | rfl | rfl | rfl
      · exact trivial
      · exact trivial
      · exact trivial
      · exact ⟨hs.seed, hby⟩) (Nat.le_of_ble_eq_true rfl) (Nat.le_of_ble_eq_true rfl) (hG.below (k1.bl.alloc (Nat.le_of_lt hlt1) _))
    rw [hgood.out, hitms.out] at this
    have e : ([] : By) ++ (⟨#[119, 111, 114, 108, 100]⟩ : ByteArray).data.toList ++ (numsT [x.people, x.covers, x.offs] ++ (32 :: hexT x.seed)) ++ [10] = headT x := by unfold headT wWorld; simp
    rw [e] at this
    exact this
  have kq := k1.trans (PKeep.of (bAl (bRefl w1) (.cells #[.iface 3 (.int .i64 x.people), .iface 3 (.int .i64 x.covers), .iface 3 (.int .i64 x.offs), .iface 32 (.agg (byts x.seed).toArray)] 20)) (Nat.le_of_lt hlt1) rfl)
  have BX2 := BX1.alloc (.cells #[.iface 3 (.int .i64 x.people), .iface 3 (.int .i64 x.covers), .iface 3 (.int .i64 x.offs), .iface 32 (.agg (byts x.seed).toArray)] 20)
  have BK2 := BK1.alloc (.cells #[.iface 3 (.int .i64 x.people), .iface 3 (.int .i64 x.covers), .iface 3 (.int .i64 x.offs), .iface 32 (.agg (byts x.seed).toArray)] 20)
  have hall : okHead x = false → x.okW = false := fun h => by unfold Wld.okW; rw [show (okN x.people && (okN x.covers && okN x.offs)) = okHead x from rfl, h]; rfl
  generalize (byts x.seed).toArray = DA at *
  clear hgood hitms hsd hP hP1
  cases hhd : okHead x with
  | false =>
    rw [hhd] at q
    have hall2 := Lib.hid (hall hhd)
    clear hall hhd
    go_wp2_with (go_at_call 43; (with_reducible refine q.mono ?_); rintro e w3 ⟨h9, k3⟩; (replace h9 : e = PanW := h9); unfold PanW at h9; subst h9)
    have B9 := k3.blk BK2 (by omega) (by decide)
    have hk9 := kq.trans k3
    have r9 := World.cell?_setCell_same _ _ (.bool false) ((B9.alloc (.cells #[] 151)).cell 0)
    refine rdoor_panic _ true _ (.bool false) B9 (by simp [results, Tryz.results19, go_sem, r9]) (WPost.no hall2.out ?_)
    exact ((hk9.bl.alloc (Nat.le_trans (Nat.le_of_lt hbW) hk9.bl.size) _).setCell (p := ⟨W.heap.size + 1, 0, none⟩) (by show b ≤ W.heap.size + 1; omega) _)
  | true =>
    rw [hhd] at q
    clear hall
    obtain ⟨T7, hT7⟩ : ∃ T7, T7 = x.faults.map slpR := ⟨_, rfl⟩
    go_wp2_with (go_at_call 43; (with_reducible refine q.mono ?_); rintro e w3 ⟨⟨rfl, h3⟩, k3⟩; have I1 : WI b W.heap.size X x W w3 [] := ⟨by simpa using h3, kq.trans k3, k3.blk BX2 (by omega) (by decide), k3.blk BK2 (by omega) (by decide), rfl⟩; have t0 := (I1.bx.cell 2).trans A2)
    clear q hT7 T7 kq BX2 BK2 h3 k3 a6 a8 a0 BX1 BK1 b1 k1
    replace I1 := Lib.hid I1
    have hsp0 : Hid (x.rows = ([] : List Rw) ++ ((x.base.zip x.leg).map clsR ++ (x.tiers.map tieR ++ (x.lines.flatMap linR ++ (x.orders.map odrR ++ (x.ents.map entR ++ (x.secs.map secR ++ (x.faults.map slpR)))))))) := Lib.hid (by unfold Wld.rows; simp)
    have hsp1 : Hid (x.rows = ((x.base.zip x.leg).map clsR) ++ (x.tiers.map tieR ++ (x.lines.flatMap linR ++ (x.orders.map odrR ++ (x.ents.map entR ++ (x.secs.map secR ++ (x.faults.map slpR))))))) := Lib.hid (by unfold Wld.rows; simp)
    have hsp2 : Hid (x.rows = (((x.base.zip x.leg).map clsR ++ x.tiers.map tieR)) ++ (x.lines.flatMap linR ++ (x.orders.map odrR ++ (x.ents.map entR ++ (x.secs.map secR ++ (x.faults.map slpR)))))) := Lib.hid (by unfold Wld.rows; simp)
    have hsp3 : Hid (x.rows = ((((x.base.zip x.leg).map clsR ++ x.tiers.map tieR) ++ x.lines.flatMap linR)) ++ (x.orders.map odrR ++ (x.ents.map entR ++ (x.secs.map secR ++ (x.faults.map slpR))))) := Lib.hid (by unfold Wld.rows; simp)
    have hsp4 : Hid (x.rows = (((((x.base.zip x.leg).map clsR ++ x.tiers.map tieR) ++ x.lines.flatMap linR) ++ x.orders.map odrR)) ++ (x.ents.map entR ++ (x.secs.map secR ++ (x.faults.map slpR)))) := Lib.hid (by unfold Wld.rows; simp)
    have hsp5 : Hid (x.rows = ((((((x.base.zip x.leg).map clsR ++ x.tiers.map tieR) ++ x.lines.flatMap linR) ++ x.orders.map odrR) ++ x.ents.map entR)) ++ (x.secs.map secR ++ (x.faults.map slpR))) := Lib.hid (by unfold Wld.rows; simp)
    have hsp6 : Hid (x.rows = (((((((x.base.zip x.leg).map clsR ++ x.tiers.map tieR) ++ x.lines.flatMap linR) ++ x.orders.map odrR) ++ x.ents.map entR) ++ x.secs.map secR)) ++ (x.faults.map slpR ++ ([]))) := Lib.hid (by unfold Wld.rows; simp)
    go_loopw [43] (fun i wr => ∃ k : Nat, k ≤ x.base.length ∧ i = .int .i64 k ∧ Hid (WI b W.heap.size X x W wr (([] : List Rw) ++ ((x.base.zip x.leg).take k).map clsR))) (fun i _ => x.base.length - (intOf i).toNat)
    case atStart => exact ⟨0, Nat.zero_le _, rfl, Lib.hid (by rw [List.take_zero]; simpa using I1.out)⟩
    case round =>
      clear t0
      obtain ⟨k, hkn, rfl, hI⟩ := hrel
      by_cases hlt : k < x.base.length
      · obtain ⟨m, hm1⟩ : ∃ y, Hid (x.base[k]? = some y) := ⟨_, Lib.hid (List.getElem?_eq_getElem hlt)⟩
        obtain ⟨n, hn9⟩ : ∃ y, Hid (x.leg[k]? = some y) := ⟨_, Lib.hid (List.getElem?_eq_getElem (by have := hlen.out; omega))⟩
        have hy : Hid ((x.base.zip x.leg)[k]? = some (m, n)) := Lib.hid (by rw [List.getElem?_zip_eq_some]; exact ⟨hm1.out, hn9.out⟩)
        obtain ⟨b1, o1, rfl, l1, hc1⟩ := (hrb.below hI.out.k.bl).2 (by omega)
        obtain ⟨b2, o2, rfl, l2, hc2⟩ := (hrg.below hI.out.k.bl).2 (by have := hlen.out; omega)
        have c0 := hc1 k _ (ints_at hm1.out)
        have c1 := hc2 k _ (ints_at hn9.out)
        have t1 := (hI.out.bx.cell 3).trans A3
        have i0 : (0 : Int) ≤ (k : Int) := by omega
        have i1 : (k : Int) < (x.base.length : Int) := by omega
        have i2 : (k : Int) < (x.leg.length : Int) := by have := hlen.out; omega
        have hr9 : Hid (x.rows = _ ++ clsR (m, n) :: _) := Lib.hid (split_map hsp0.out hy.out)
        have I2 := hI.out
        have q : Calls Tryz.prog 43 #[.pointer (some ⟨b, 0, none⟩), .string ⟨#[99, 108, 97, 115, 115]⟩, .slice (some ⟨wr.heap.size, 0, none⟩) 2 2] (wr.alloc (.cells #[.iface 3 (.int .i64 m), .iface 3 (.int .i64 n)] 20)) _ := put_nums b _ (clsR (m, n)) ⟨#[99, 108, 97, 115, 115]⟩ wr rfl I2.p (I2.room hr9.out hm hs.seed hhd) (Nat.le_of_ble_eq_true rfl) (hG.below I2.k.bl)
        clear hc1 hc2
        replace I2 := Lib.hid I2
        cases hok : okR (clsR (m, n)) with
        | false =>
          replace hok := Lib.hid hok
          go_wp2_with (go_at_call 43; (with_reducible refine q.mono ?_); rintro e w5 ⟨-, h9, k5⟩; replace h9 := h9 hok.out; unfold PanW at h9; subst h9)
          have hk9 := I2.out.k.trans k5
          have B9 := k5.blk I2.out.bk (by omega) (by decide)
          have r9 := World.cell?_setCell_same _ _ (.bool false) ((B9.alloc (.cells #[] 151)).cell 0)
          refine rdoor_panic _ true _ (.bool false) B9 (by simp [results, Tryz.results19, go_sem, r9]) (WPost.no (bad_row hr9.out hok.out) ?_)
          exact ((hk9.bl.alloc (Nat.le_trans (Nat.le_of_lt hbW) hk9.bl.size) _).setCell (p := ⟨W.heap.size + 1, 0, none⟩) (by show b ≤ W.heap.size + 1; omega) _)
        | true =>
          replace hok := Lib.hid hok
          go_wp2_with (go_at_call 43; (with_reducible refine q.mono ?_); rintro e w5 ⟨h9, -, k5⟩; obtain ⟨rfl, h5⟩ := h9 hok.out)
          exact ⟨⟨k + 1, by omega, by go_num, Lib.hid (by rw [take_map _ hy.out]; exact I2.out.put h5 k5 hok.out hbW)⟩, by simp [intOf]; omega⟩
      · have hk9 : Hid ((x.base.zip x.leg).take k = x.base.zip x.leg) := Lib.hid (List.take_of_length_le (by rw [List.length_zip]; have := hlen.out; omega))
        have I1 : Hid (WI b W.heap.size X x W wr (((x.base.zip x.leg).map clsR))) := Lib.hid (by have := hI.out; rw [hk9.out] at this; simpa using this)
        have t0 := (I1.out.bx.cell 4).trans A4
        go_wp2_with fail
        go_loopw [65] (fun i wr => ∃ k : Nat, k ≤ x.tiers.length ∧ i = .int .i64 k ∧ Hid (WI b W.heap.size X x W wr (((x.base.zip x.leg).map clsR) ++ (x.tiers.take k).map tieR))) (fun i _ => x.tiers.length - (intOf i).toNat)
        case atStart => exact ⟨0, Nat.zero_le _, rfl, Lib.hid (by rw [List.take_zero]; simpa using I1.out)⟩
        case round =>
          clear t0
          obtain ⟨k, hkn, rfl, hI⟩ := hrel
          by_cases hlt : k < x.tiers.length
          · obtain ⟨y, hy⟩ : ∃ y, Hid (x.tiers[k]? = some y) := ⟨_, Lib.hid (List.getElem?_eq_getElem hlt)⟩
            obtain ⟨b1, o1, rfl, l1, hc⟩ := Cl_at (f := Tie.cl) (fun _ _ => rfl) (hrt.below hI.out.k.bl) hlt hy.out
            have c0 := hc 0 (by omega)
            have c1 := hc 1 (by omega)
            simp only [Tie.cl, List.getElem?_cons_zero, List.getElem?_cons_succ, Nat.add_zero] at c0 c1
            have i0 : (0 : Int) ≤ (k : Int) := by omega
            have i1 : (k : Int) < (x.tiers.length : Int) := by omega
            have hr9 : Hid (x.rows = _ ++ tieR y :: _) := Lib.hid (split_map hsp1.out hy.out)
            have BY := Blk.new wr 63 #[.int .i64 y.from_, .int .i64 y.extra] _ rfl
            have d0 := BY.cell 0
            have d1 := BY.cell 1
            have I2 := hI.out.al (.cells #[.int .i64 y.from_, .int .i64 y.extra] 63)
            have q : Calls Tryz.prog 43 #[.pointer (some ⟨b, 0, none⟩), .string ⟨#[116, 105, 101, 114]⟩, .slice (some ⟨(wr.alloc (.cells #[.int .i64 y.from_, .int .i64 y.extra] 63)).heap.size, 0, none⟩) 2 2] ((wr.alloc (.cells #[.int .i64 y.from_, .int .i64 y.extra] 63)).alloc (.cells #[.iface 3 (.int .i64 y.from_), .iface 3 (.int .i64 y.extra)] 20)) _ := put_nums b _ (tieR y) ⟨#[116, 105, 101, 114]⟩ (wr.alloc (.cells #[.int .i64 y.from_, .int .i64 y.extra] 63)) rfl I2.p (I2.room hr9.out hm hs.seed hhd) (Nat.le_of_ble_eq_true rfl) (hG.below I2.k.bl)
            rw [show (wr.alloc (.cells #[.int .i64 y.from_, .int .i64 y.extra] 63)).heap.size = wr.heap.size + 1 by simp] at q
            replace I2 := Lib.hid I2
            clear BY hc
            cases hok : okR (tieR y) with
            | false =>
              replace hok := Lib.hid hok
              go_wp2_with (go_at_call 43; (with_reducible refine q.mono ?_); rintro e w5 ⟨-, h9, k5⟩; replace h9 := h9 hok.out; unfold PanW at h9; subst h9)
              have hk9 := I2.out.k.trans k5
              have B9 := k5.blk I2.out.bk (by omega) (by decide)
              have r9 := World.cell?_setCell_same _ _ (.bool false) ((B9.alloc (.cells #[] 151)).cell 0)
              refine rdoor_panic _ true _ (.bool false) B9 (by simp [results, Tryz.results19, go_sem, r9]) (WPost.no (bad_row hr9.out hok.out) ?_)
              exact ((hk9.bl.alloc (Nat.le_trans (Nat.le_of_lt hbW) hk9.bl.size) _).setCell (p := ⟨W.heap.size + 1, 0, none⟩) (by show b ≤ W.heap.size + 1; omega) _)
            | true =>
              replace hok := Lib.hid hok
              go_wp2_with (go_at_call 43; (with_reducible refine q.mono ?_); rintro e w5 ⟨h9, -, k5⟩; obtain ⟨rfl, h5⟩ := h9 hok.out)
              exact ⟨⟨k + 1, by omega, by go_num, Lib.hid (by rw [take_map _ hy.out]; exact I2.out.put h5 k5 hok.out hbW)⟩, by simp [intOf]; omega⟩
          · have hk9 : Hid (x.tiers.take k = x.tiers) := Lib.hid (List.take_of_length_le (by omega))
            have I1 : Hid (WI b W.heap.size X x W wr ((((x.base.zip x.leg).map clsR ++ x.tiers.map tieR)))) := Lib.hid (by have := hI.out; rw [hk9.out] at this; exact this)
            have t0 := (I1.out.bx.cell 1).trans A1
            go_wp2_with fail
            go_loopw [83] (fun i wr => ∃ k : Nat, k ≤ x.lines.length ∧ i = .int .i64 k ∧ Hid (WI b W.heap.size X x W wr ((((x.base.zip x.leg).map clsR ++ x.tiers.map tieR)) ++ (x.lines.take k).flatMap linR))) (fun i _ => x.lines.length - (intOf i).toNat)
            case atStart => exact ⟨0, Nat.zero_le _, rfl, Lib.hid (by rw [List.take_zero]; simpa using I1.out)⟩
            case round =>
              clear t0
              obtain ⟨k, hkn, rfl, hI⟩ := hrel
              by_cases hlt : k < x.lines.length
              · obtain ⟨y, hy⟩ : ∃ y, Hid (x.lines[k]? = some y) := ⟨_, Lib.hid (List.getElem?_eq_getElem hlt)⟩
                obtain ⟨⟨p0, p1, p2, p3, m0, m1, m2, m3⟩, eq0, rq0⟩ := la3 k y hy.out
                have zo : (la.zip x.lines)[k]? = some ((⟨p0, p1, p2, p3, m0, m1, m2, m3⟩ : LS), y) := by rw [List.getElem?_zip_eq_some]; exact ⟨eq0, hy.out⟩
                obtain ⟨b1, o1, rfl, l1, hc⟩ := Cl_at (f := fun p : LS × Lin => p.1.cl p.2) (fun _ _ => rfl) (la2.below hI.out.k.bl) hlt zo
                have c0 := hc 0 (by omega)
                have c1 := hc 1 (by omega)
                have c2 := hc 2 (by omega)
                have c3 := hc 3 (by omega)
                have c4 := hc 4 (by omega)
                have c5 := hc 5 (by omega)
                simp only [LS.cl, List.getElem?_cons_zero, List.getElem?_cons_succ, Nat.add_zero] at c0 c1 c2 c3 c4 c5
                have i0 : (0 : Int) ≤ (k : Int) := by omega
                have i1 : (k : Int) < (x.lines.length : Int) := by omega
                have hr0 : Hid (∃ T, x.rows = ((((x.base.zip x.leg).map clsR ++ x.tiers.map tieR)) ++ (x.lines.take k).flatMap linR) ++ lineR y :: (y.rules.map ruleR ++ (y.off.map gapR ++ T))) := Lib.hid ⟨_, split_lin hsp2.out hy.out⟩
                obtain ⟨T9, hT9⟩ := hr0.out
                clear hr0
                obtain ⟨D9, hD9⟩ : ∃ D9, Hid (D9 = (((x.base.zip x.leg).map clsR ++ x.tiers.map tieR)) ++ (x.lines.take k).flatMap linR) := ⟨_, Lib.hid rfl⟩
                have hnext : Hid ((((x.base.zip x.leg).map clsR ++ x.tiers.map tieR)) ++ (x.lines.take (k + 1)).flatMap linR = ((D9 ++ [lineR y]) ++ y.rules.map ruleR) ++ y.off.map gapR) := Lib.hid (by rw [hD9.out, take_lin _ hy.out])
                rw [← hD9.out] at hI hT9
                have hr9 : Hid (x.rows = D9 ++ lineR y :: (y.rules.map ruleR ++ (y.off.map gapR ++ T9))) := Lib.hid hT9
                clear hT9
                have BY := Blk.new wr 56 #[.slice p0 y.offs.length m0, .slice p1 y.legs.length m1, .int .i64 y.cls, .int .i64 y.room, .slice p2 y.rules.length m2, .slice p3 y.off.length m3] _ rfl
                have d0 := BY.cell 0
                have d1 := BY.cell 1
                have d2 := BY.cell 2
                have d3 := BY.cell 3
                have d4 := BY.cell 4
                have d5 := BY.cell 5
                have I2 := hI.out.al (.cells #[.slice p0 y.offs.length m0, .slice p1 y.legs.length m1, .int .i64 y.cls, .int .i64 y.room, .slice p2 y.rules.length m2, .slice p3 y.off.length m3] 56)
                have hsh := hs.line y (List.mem_of_getElem? hy.out)
                obtain ⟨hs0, hs1, hs2, hs3⟩ := hsh
                have hbk := hI.out.p.lt
                have q : Calls Tryz.prog 43 #[.pointer (some ⟨b, 0, none⟩), .string ⟨#[108, 105, 110, 101]⟩, .slice (some ⟨(wr.alloc (.cells #[.slice p0 y.offs.length m0, .slice p1 y.legs.length m1, .int .i64 y.cls, .int .i64 y.room, .slice p2 y.rules.length m2, .slice p3 y.off.length m3] 56)).heap.size, 0, none⟩) 5 5] ((wr.alloc (.cells #[.slice p0 y.offs.length m0, .slice p1 y.legs.length m1, .int .i64 y.cls, .int .i64 y.room, .slice p2 y.rules.length m2, .slice p3 y.off.length m3] 56)).alloc (.cells #[.iface 3 (.int .i64 y.cls), .iface 3 (.int .i64 y.room), .iface 3 (.int .i64 (y.offs.length : Int)), .iface 25 (.slice p0 y.offs.length m0), .iface 25 (.slice p1 y.legs.length m1)] 20)) _ := put_row b _ (lineR y) [.num y.cls, .num y.room, .num (y.offs.length : Int), .nums p0 m0 y.offs, .nums p1 m1 y.legs] ⟨#[108, 105, 110, 101]⟩ (wr.alloc (.cells #[.slice p0 y.offs.length m0, .slice p1 y.legs.length m1, .int .i64 y.cls, .int .i64 y.room, .slice p2 y.rules.length m2, .slice p3 y.off.length m3] 56)) rfl (line_txt y p0 p1 m0 m1) (line_good y p0 p1 m0 m1) (line_wt y p0 p1 m0 m1) I2.p (line_At (rq0.r0.below I2.k.bl) hs0 (rq0.r1.below I2.k.bl) hs1) (I2.room hr9.out hm hs.seed hhd) (Nat.le_of_ble_eq_true rfl) (hG.below I2.k.bl)
                rw [show (wr.alloc (.cells #[.slice p0 y.offs.length m0, .slice p1 y.legs.length m1, .int .i64 y.cls, .int .i64 y.room, .slice p2 y.rules.length m2, .slice p3 y.off.length m3] 56)).heap.size = wr.heap.size + 1 by simp] at q
                have rr2 := rq0.r2
                have rr3 := rq0.r3
                clear hc eq0 zo rq0
                replace I2 := Lib.hid I2
                replace BY := Lib.hid BY
                have hwr := hI.out.k.bl.size
                have BYl := BY.out.lt
                obtain ⟨gl, hgl⟩ : ∃ gl, Hid (gl = wr.heap.size) := ⟨_, Lib.hid rfl⟩
                have hspr : Hid (x.rows = (D9 ++ [lineR y]) ++ (y.rules.map ruleR ++ (y.off.map gapR ++ T9))) := Lib.hid (by rw [hr9.out]; simp)
                have hspg : Hid (x.rows = ((D9 ++ [lineR y]) ++ y.rules.map ruleR) ++ (y.off.map gapR ++ T9)) := Lib.hid (by rw [hr9.out]; simp)
                cases hok : okR (lineR y) with
                | false =>
                  replace hok := Lib.hid hok
                  go_wp2_with (go_at_call 43; (with_reducible refine q.mono ?_); rintro e w5 ⟨-, h9, k5⟩; replace h9 := h9 hok.out; unfold PanW at h9; subst h9)
                  have hk9 := I2.out.k.trans k5
                  have B9 := k5.blk I2.out.bk (by omega) (by decide)
                  have r9 := World.cell?_setCell_same _ _ (.bool false) ((B9.alloc (.cells #[] 151)).cell 0)
                  refine rdoor_panic _ true _ (.bool false) B9 (by simp [results, Tryz.results19, go_sem, r9]) (WPost.no (bad_row hr9.out hok.out) ?_)
                  exact ((hk9.bl.alloc (Nat.le_trans (Nat.le_of_lt hbW) hk9.bl.size) _).setCell (p := ⟨W.heap.size + 1, 0, none⟩) (by show b ≤ W.heap.size + 1; omega) _)
                | true =>
                  replace hok := Lib.hid hok
                  skip
                  go_wp2_with (go_at_call 43; (with_reducible refine q.mono ?_); rintro e w5 ⟨h9, -, k5⟩; obtain ⟨rfl, h5⟩ := h9 hok.out; have BL := k5.blk BY.out (by omega) (by decide); have u0 := BL.cell 4)
                  have I3 : Hid (WI b W.heap.size X x W w5 (D9 ++ [lineR y])) := Lib.hid (I2.out.put h5 k5 hok.out hbW)
                  clear h5 k5 q BY d0 d1 d2 d3 d4 d5 c0 c1 c2 c3 c4 c5
                  have hgb : b < wr.heap.size := hbk
                  have hgX : W.heap.size + 1 < wr.heap.size := hI.out.bk.lt
                  rw [← hgl.out] at hgb hgX BL u0 ⊢
                  skip
                  go_loopw [109] (fun i wv => ∃ j : Nat, j ≤ y.rules.length ∧ i = .int .i64 j ∧ Hid (WI b W.heap.size X x W wv ((D9 ++ [lineR y]) ++ (y.rules.take j).map ruleR)) ∧ Blk wv gl 56 #[.slice p0 y.offs.length m0, .slice p1 y.legs.length m1, .int .i64 y.cls, .int .i64 y.room, .slice p2 y.rules.length m2, .slice p3 y.off.length m3]) (fun i _ => y.rules.length - (intOf i).toNat)
                  case atStart => exact ⟨0, Nat.zero_le _, rfl, Lib.hid (by rw [List.take_zero]; simpa using I3.out), BL⟩
                  case round =>
                    clear u0 I3 I2
                    obtain ⟨j, hjn, rfl, hJ, BL⟩ := hrel
                    by_cases hjt : j < y.rules.length
                    · obtain ⟨z, hz⟩ : ∃ z, Hid (y.rules[j]? = some z) := ⟨_, Lib.hid (List.getElem?_eq_getElem hjt)⟩
                      obtain ⟨b2, o2, rfl, l2, hc⟩ := Cl_at (f := Rl.cl) (fun _ _ => rfl) (rr2.below hJ.out.k.bl) hjt hz.out
                      have c0 := hc 0 (by omega)
                      have c1 := hc 1 (by omega)
                      have c2 := hc 2 (by omega)
                      simp only [Rl.cl, List.getElem?_cons_zero, List.getElem?_cons_succ, Nat.add_zero] at c0 c1 c2
                      have i2 : (0 : Int) ≤ (j : Int) := by omega
                      have i3 : (j : Int) < (y.rules.length : Int) := by omega
                      have hr8 : Hid (x.rows = _ ++ ruleR z :: _) := Lib.hid (split_map hspr.out hz.out)
                      have BZ := Blk.new wr 59 #[.int .i64 z.first, .int .i64 z.until_, .int .i64 z.every] _ rfl
                      have d0 := BZ.cell 0
                      have d1 := BZ.cell 1
                      have d2 := BZ.cell 2
                      have I4 := hJ.out.al (.cells #[.int .i64 z.first, .int .i64 z.until_, .int .i64 z.every] 59)
                      have BL4 := BL.alloc (.cells #[.int .i64 z.first, .int .i64 z.until_, .int .i64 z.every] 59)
                      have q : Calls Tryz.prog 43 #[.pointer (some ⟨b, 0, none⟩), .string ⟨#[114, 117, 108, 101]⟩, .slice (some ⟨(wr.alloc (.cells #[.int .i64 z.first, .int .i64 z.until_, .int .i64 z.every] 59)).heap.size, 0, none⟩) 3 3] ((wr.alloc (.cells #[.int .i64 z.first, .int .i64 z.until_, .int .i64 z.every] 59)).alloc (.cells #[.iface 3 (.int .i64 z.first), .iface 3 (.int .i64 z.until_), .iface 3 (.int .i64 z.every)] 20)) _ := put_nums b _ (ruleR z) ⟨#[114, 117, 108, 101]⟩ (wr.alloc (.cells #[.int .i64 z.first, .int .i64 z.until_, .int .i64 z.every] 59)) rfl I4.p (I4.room hr8.out hm hs.seed hhd) (Nat.le_of_ble_eq_true rfl) (hG.below I4.k.bl)
                      rw [show (wr.alloc (.cells #[.int .i64 z.first, .int .i64 z.until_, .int .i64 z.every] 59)).heap.size = wr.heap.size + 1 by simp] at q
                      replace I4 := Lib.hid I4
                      clear BZ hc
                      cases hok : okR (ruleR z) with
                      | false =>
                        replace hok := Lib.hid hok
                        go_wp2_with (go_at_call 43; (with_reducible refine q.mono ?_); rintro e w5 ⟨-, h9, k5⟩; replace h9 := h9 hok.out; unfold PanW at h9; subst h9)
                        have hk9 := I4.out.k.trans k5
                        have B9 := k5.blk I4.out.bk (by omega) (by decide)
                        have r9 := World.cell?_setCell_same _ _ (.bool false) ((B9.alloc (.cells #[] 151)).cell 0)
                        refine rdoor_panic _ true _ (.bool false) B9 (by simp [results, Tryz.results19, go_sem, r9]) (WPost.no (bad_row hr8.out hok.out) ?_)
                        exact ((hk9.bl.alloc (Nat.le_trans (Nat.le_of_lt hbW) hk9.bl.size) _).setCell (p := ⟨W.heap.size + 1, 0, none⟩) (by show b ≤ W.heap.size + 1; omega) _)
                      | true =>
                        replace hok := Lib.hid hok
                        go_wp2_with (go_at_call 43; (with_reducible refine q.mono ?_); rintro e w5 ⟨h9, -, k5⟩; obtain ⟨rfl, h5⟩ := h9 hok.out)
                        exact ⟨⟨j + 1, by omega, by go_num, Lib.hid (by rw [take_map _ hz.out]; exact I4.out.put h5 k5 hok.out hbW), k5.blk BL4 (by omega) (by decide)⟩, by simp [intOf]; omega⟩
                    · have hj9 : Hid (y.rules.take j = y.rules) := Lib.hid (List.take_of_length_le (by omega))
                      have I3 : Hid (WI b W.heap.size X x W wr ((D9 ++ [lineR y]) ++ y.rules.map ruleR)) := Lib.hid (by have := hJ.out; rw [hj9.out] at this; exact this)
                      have u0 := BL.cell 5
                      go_wp2_with fail
                      go_loopw [129] (fun i wv => ∃ j : Nat, j ≤ y.off.length ∧ i = .int .i64 j ∧ Hid (WI b W.heap.size X x W wv (((D9 ++ [lineR y]) ++ y.rules.map ruleR) ++ (y.off.take j).map gapR)) ∧ Blk wv gl 56 #[.slice p0 y.offs.length m0, .slice p1 y.legs.length m1, .int .i64 y.cls, .int .i64 y.room, .slice p2 y.rules.length m2, .slice p3 y.off.length m3]) (fun i _ => y.off.length - (intOf i).toNat)
                      case atStart => exact ⟨0, Nat.zero_le _, rfl, Lib.hid (by rw [List.take_zero]; simpa using I3.out), BL⟩
                      case round =>
                        clear u0 hJ I3
                        obtain ⟨j, hjn, rfl, hJ, BL⟩ := hrel
                        by_cases hjt : j < y.off.length
                        · obtain ⟨z, hz⟩ : ∃ z, Hid (y.off[j]? = some z) := ⟨_, Lib.hid (List.getElem?_eq_getElem hjt)⟩
                          obtain ⟨b2, o2, rfl, l2, hc⟩ := Cl_at (f := Gp.cl) (fun _ _ => rfl) (rr3.below hJ.out.k.bl) hjt hz.out
                          have c0 := hc 0 (by omega)
                          have c1 := hc 1 (by omega)
                          simp only [Gp.cl, List.getElem?_cons_zero, List.getElem?_cons_succ, Nat.add_zero] at c0 c1
                          have i2 : (0 : Int) ≤ (j : Int) := by omega
                          have i3 : (j : Int) < (y.off.length : Int) := by omega
                          have hr8 : Hid (x.rows = _ ++ gapR z :: _) := Lib.hid (split_map hspg.out hz.out)
                          have BZ := Blk.new wr 61 #[.int .i64 z.from_, .int .i64 z.until_] _ rfl
                          have d0 := BZ.cell 0
                          have d1 := BZ.cell 1
                          have I4 := hJ.out.al (.cells #[.int .i64 z.from_, .int .i64 z.until_] 61)
                          have BL4 := BL.alloc (.cells #[.int .i64 z.from_, .int .i64 z.until_] 61)
                          have q : Calls Tryz.prog 43 #[.pointer (some ⟨b, 0, none⟩), .string ⟨#[103, 97, 112]⟩, .slice (some ⟨(wr.alloc (.cells #[.int .i64 z.from_, .int .i64 z.until_] 61)).heap.size, 0, none⟩) 2 2] ((wr.alloc (.cells #[.int .i64 z.from_, .int .i64 z.until_] 61)).alloc (.cells #[.iface 3 (.int .i64 z.from_), .iface 3 (.int .i64 z.until_)] 20)) _ := put_nums b _ (gapR z) ⟨#[103, 97, 112]⟩ (wr.alloc (.cells #[.int .i64 z.from_, .int .i64 z.until_] 61)) rfl I4.p (I4.room hr8.out hm hs.seed hhd) (Nat.le_of_ble_eq_true rfl) (hG.below I4.k.bl)
                          rw [show (wr.alloc (.cells #[.int .i64 z.from_, .int .i64 z.until_] 61)).heap.size = wr.heap.size + 1 by simp] at q
                          replace I4 := Lib.hid I4
                          clear BZ hc
                          cases hok : okR (gapR z) with
                          | false =>
                            replace hok := Lib.hid hok
                            go_wp2_with (go_at_call 43; (with_reducible refine q.mono ?_); rintro e w5 ⟨-, h9, k5⟩; replace h9 := h9 hok.out; unfold PanW at h9; subst h9)
                            have hk9 := I4.out.k.trans k5
                            have B9 := k5.blk I4.out.bk (by omega) (by decide)
                            have r9 := World.cell?_setCell_same _ _ (.bool false) ((B9.alloc (.cells #[] 151)).cell 0)
                            refine rdoor_panic _ true _ (.bool false) B9 (by simp [results, Tryz.results19, go_sem, r9]) (WPost.no (bad_row hr8.out hok.out) ?_)
                            exact ((hk9.bl.alloc (Nat.le_trans (Nat.le_of_lt hbW) hk9.bl.size) _).setCell (p := ⟨W.heap.size + 1, 0, none⟩) (by show b ≤ W.heap.size + 1; omega) _)
                          | true =>
                            replace hok := Lib.hid hok
                            go_wp2_with (go_at_call 43; (with_reducible refine q.mono ?_); rintro e w5 ⟨h9, -, k5⟩; obtain ⟨rfl, h5⟩ := h9 hok.out)
                            exact ⟨⟨j + 1, by omega, by go_num, Lib.hid (by rw [take_map _ hz.out]; exact I4.out.put h5 k5 hok.out hbW), k5.blk BL4 (by omega) (by decide)⟩, by simp [intOf]; omega⟩
                        · have hj9 : Hid (y.off.take j = y.off) := Lib.hid (List.take_of_length_le (by omega))
                          have I3 : Hid (WI b W.heap.size X x W wr (((D9 ++ [lineR y]) ++ y.rules.map ruleR) ++ y.off.map gapR)) := Lib.hid (by have := hJ.out; rw [hj9.out] at this; exact this)
                          go_wp2_with fail
                          exact ⟨⟨k + 1, by omega, by go_num, Lib.hid (by rw [hnext.out]; exact I3.out)⟩, by simp [intOf]; omega⟩
              · have hk9 : Hid (x.lines.take k = x.lines) := Lib.hid (List.take_of_length_le (by omega))
                have I1 : Hid (WI b W.heap.size X x W wr (((((x.base.zip x.leg).map clsR ++ x.tiers.map tieR) ++ x.lines.flatMap linR)))) := Lib.hid (by have := hI.out; rw [hk9.out] at this; exact this)
                have t0 := (I1.out.bx.cell 5).trans A5
                go_wp2_with fail
                go_loopw [147] (fun i wr => ∃ k : Nat, k ≤ x.orders.length ∧ i = .int .i64 k ∧ Hid (WI b W.heap.size X x W wr (((((x.base.zip x.leg).map clsR ++ x.tiers.map tieR) ++ x.lines.flatMap linR)) ++ (x.orders.take k).map odrR))) (fun i _ => x.orders.length - (intOf i).toNat)
                case atStart => exact ⟨0, Nat.zero_le _, rfl, Lib.hid (by rw [List.take_zero]; simpa using I1.out)⟩
                case round =>
                  clear t0
                  obtain ⟨k, hkn, rfl, hI⟩ := hrel
                  by_cases hlt : k < x.orders.length
                  · obtain ⟨y, hy⟩ : ∃ y, Hid (x.orders[k]? = some y) := ⟨_, Lib.hid (List.getElem?_eq_getElem hlt)⟩
                    obtain ⟨Ao, cao, eo, ro⟩ := va3 k y hy.out
                    have zo : (x.orders.zip va)[k]? = some (y, Value.slice Ao y.ag.length cao) := by rw [List.getElem?_zip_eq_some]; exact ⟨hy.out, eo⟩
                    obtain ⟨b1, o1, rfl, l1, hc⟩ := Cl_at (f := fun p : Odr × Value => p.1.cl p.2) (fun _ _ => rfl) (va2.below hI.out.k.bl) hlt zo
                    have c0 := hc 0 (by omega)
                    have c1 := hc 1 (by omega)
                    have c2 := hc 2 (by omega)
                    have c3 := hc 3 (by omega)
                    have c4 := hc 4 (by omega)
                    have c5 := hc 5 (by omega)
                    have c6 := hc 6 (by omega)
                    have c7 := hc 7 (by omega)
                    have c8 := hc 8 (by omega)
                    have c9 := hc 9 (by omega)
                    have c10 := hc 10 (by omega)
                    simp only [Odr.cl, List.getElem?_cons_zero, List.getElem?_cons_succ, Nat.add_zero] at c0 c1 c2 c3 c4 c5 c6 c7 c8 c9 c10
                    have i0 : (0 : Int) ≤ (k : Int) := by omega
                    have i1 : (k : Int) < (x.orders.length : Int) := by omega
                    have hr9 : Hid (x.rows = _ ++ odrR y :: _) := Lib.hid (split_map hsp3.out hy.out)
                    have BY := Blk.new wr 65 #[.int .i64 y.from_, .int .i64 y.person, .int .i64 y.dest, .int .i64 y.cls, .int .i64 y.after, .int .i64 y.by_, .int .i64 y.crowd, .int .i64 y.pay, .slice Ao y.ag.length cao, .bool y.back, .int .i64 y.els] _ rfl
                    have d0 := BY.cell 0
                    have d1 := BY.cell 1
                    have d2 := BY.cell 2
                    have d3 := BY.cell 3
                    have d4 := BY.cell 4
                    have d5 := BY.cell 5
                    have d6 := BY.cell 6
                    have d7 := BY.cell 7
                    have d8 := BY.cell 8
                    have d9 := BY.cell 9
                    have d10 := BY.cell 10
                    have I2 := hI.out.al (.cells #[.int .i64 y.from_, .int .i64 y.person, .int .i64 y.dest, .int .i64 y.cls, .int .i64 y.after, .int .i64 y.by_, .int .i64 y.crowd, .int .i64 y.pay, .slice Ao y.ag.length cao, .bool y.back, .int .i64 y.els] 65)
                    have hag := (hs.order y (List.mem_of_getElem? hy.out)).1
                    have q : Calls Tryz.prog 43 #[.pointer (some ⟨b, 0, none⟩), .string ⟨#[111, 114, 100, 101, 114]⟩, .slice (some ⟨(wr.alloc (.cells #[.int .i64 y.from_, .int .i64 y.person, .int .i64 y.dest, .int .i64 y.cls, .int .i64 y.after, .int .i64 y.by_, .int .i64 y.crowd, .int .i64 y.pay, .slice Ao y.ag.length cao, .bool y.back, .int .i64 y.els] 65)).heap.size, 0, none⟩) 11 11] ((wr.alloc (.cells #[.int .i64 y.from_, .int .i64 y.person, .int .i64 y.dest, .int .i64 y.cls, .int .i64 y.after, .int .i64 y.by_, .int .i64 y.crowd, .int .i64 y.pay, .slice Ao y.ag.length cao, .bool y.back, .int .i64 y.els] 65)).alloc (.cells #[.iface 3 (.int .i64 y.from_), .iface 3 (.int .i64 y.person), .iface 3 (.int .i64 y.dest), .iface 3 (.int .i64 y.cls), .iface 3 (.int .i64 y.after), .iface 3 (.int .i64 y.by_), .iface 3 (.int .i64 y.crowd), .iface 3 (.int .i64 y.pay), .iface 4 (.bool y.back), .iface 3 (.int .i64 y.els), .iface 25 (.slice Ao y.ag.length cao)] 20)) _ := put_row b _ (odrR y) [.num y.from_, .num y.person, .num y.dest, .num y.cls, .num y.after, .num y.by_, .num y.crowd, .num y.pay, .flag y.back, .num y.els, .nums Ao cao y.ag] ⟨#[111, 114, 100, 101, 114]⟩ (wr.alloc (.cells #[.int .i64 y.from_, .int .i64 y.person, .int .i64 y.dest, .int .i64 y.cls, .int .i64 y.after, .int .i64 y.by_, .int .i64 y.crowd, .int .i64 y.pay, .slice Ao y.ag.length cao, .bool y.back, .int .i64 y.els] 65)) rfl (odr_txt y Ao cao) (odr_good y Ao cao) (odr_wt y Ao cao) I2.p (odr_At (ro.below I2.k.bl) hag) (I2.room hr9.out hm hs.seed hhd) (Nat.le_of_ble_eq_true rfl) (hG.below I2.k.bl)
                    rw [show (wr.alloc (.cells #[.int .i64 y.from_, .int .i64 y.person, .int .i64 y.dest, .int .i64 y.cls, .int .i64 y.after, .int .i64 y.by_, .int .i64 y.crowd, .int .i64 y.pay, .slice Ao y.ag.length cao, .bool y.back, .int .i64 y.els] 65)).heap.size = wr.heap.size + 1 by simp] at q
                    replace I2 := Lib.hid I2
                    clear BY hc eo ro zo
                    cases hok : okR (odrR y) with
                    | false =>
                      replace hok := Lib.hid hok
                      go_wp2_with (go_at_call 43; (with_reducible refine q.mono ?_); rintro e w5 ⟨-, h9, k5⟩; replace h9 := h9 hok.out; unfold PanW at h9; subst h9)
                      have hk9 := I2.out.k.trans k5
                      have B9 := k5.blk I2.out.bk (by omega) (by decide)
                      have r9 := World.cell?_setCell_same _ _ (.bool false) ((B9.alloc (.cells #[] 151)).cell 0)
                      refine rdoor_panic _ true _ (.bool false) B9 (by simp [results, Tryz.results19, go_sem, r9]) (WPost.no (bad_row hr9.out hok.out) ?_)
                      exact ((hk9.bl.alloc (Nat.le_trans (Nat.le_of_lt hbW) hk9.bl.size) _).setCell (p := ⟨W.heap.size + 1, 0, none⟩) (by show b ≤ W.heap.size + 1; omega) _)
                    | true =>
                      replace hok := Lib.hid hok
                      go_wp2_with (go_at_call 43; (with_reducible refine q.mono ?_); rintro e w5 ⟨h9, -, k5⟩; obtain ⟨rfl, h5⟩ := h9 hok.out)
                      exact ⟨⟨k + 1, by omega, by go_num, Lib.hid (by rw [take_map _ hy.out]; exact I2.out.put h5 k5 hok.out hbW)⟩, by simp [intOf]; omega⟩
                  · have hk9 : Hid (x.orders.take k = x.orders) := Lib.hid (List.take_of_length_le (by omega))
                    have I1 : Hid (WI b W.heap.size X x W wr ((((((x.base.zip x.leg).map clsR ++ x.tiers.map tieR) ++ x.lines.flatMap linR) ++ x.orders.map odrR)))) := Lib.hid (by have := hI.out; rw [hk9.out] at this; exact this)
                    have t0 := (I1.out.bx.cell 7).trans A7
                    go_wp2_with fail
                    go_loopw [191] (fun i wr => ∃ k : Nat, k ≤ x.ents.length ∧ i = .int .i64 k ∧ Hid (WI b W.heap.size X x W wr ((((((x.base.zip x.leg).map clsR ++ x.tiers.map tieR) ++ x.lines.flatMap linR) ++ x.orders.map odrR)) ++ (x.ents.take k).map entR))) (fun i _ => x.ents.length - (intOf i).toNat)
                    case atStart => exact ⟨0, Nat.zero_le _, rfl, Lib.hid (by rw [List.take_zero]; simpa using I1.out)⟩
                    case round =>
                      clear t0
                      obtain ⟨k, hkn, rfl, hI⟩ := hrel
                      by_cases hlt : k < x.ents.length
                      · obtain ⟨y, hy⟩ : ∃ y, Hid (x.ents[k]? = some y) := ⟨_, Lib.hid (List.getElem?_eq_getElem hlt)⟩
                        obtain ⟨b1, o1, rfl, l1, hc⟩ := Cl_at (f := Ent.cl) (fun _ _ => rfl) (hre.below hI.out.k.bl) hlt hy.out
                        have c0 := hc 0 (by omega)
                        have c1 := hc 1 (by omega)
                        have c2 := hc 2 (by omega)
                        have c3 := hc 3 (by omega)
                        have c4 := hc 4 (by omega)
                        have c5 := hc 5 (by omega)
                        have c6 := hc 6 (by omega)
                        have c7 := hc 7 (by omega)
                        simp only [Ent.cl, List.getElem?_cons_zero, List.getElem?_cons_succ, Nat.add_zero] at c0 c1 c2 c3 c4 c5 c6 c7
                        have i0 : (0 : Int) ≤ (k : Int) := by omega
                        have i1 : (k : Int) < (x.ents.length : Int) := by omega
                        have hr9 : Hid (x.rows = _ ++ entR y :: _) := Lib.hid (split_map hsp4.out hy.out)
                        have BY := Blk.new wr 67 #[.int .i64 y.no, .int .i64 y.kind, .int .i64 y.a, .int .i64 y.b, .int .i64 y.from_, .int .i64 y.until_, .int .i64 y.known, .int .i64 y.gone] _ rfl
                        have d0 := BY.cell 0
                        have d1 := BY.cell 1
                        have d2 := BY.cell 2
                        have d3 := BY.cell 3
                        have d4 := BY.cell 4
                        have d5 := BY.cell 5
                        have d6 := BY.cell 6
                        have d7 := BY.cell 7
                        have I2 := hI.out.al (.cells #[.int .i64 y.no, .int .i64 y.kind, .int .i64 y.a, .int .i64 y.b, .int .i64 y.from_, .int .i64 y.until_, .int .i64 y.known, .int .i64 y.gone] 67)
                        have q : Calls Tryz.prog 43 #[.pointer (some ⟨b, 0, none⟩), .string ⟨#[101, 110, 116, 114, 121]⟩, .slice (some ⟨(wr.alloc (.cells #[.int .i64 y.no, .int .i64 y.kind, .int .i64 y.a, .int .i64 y.b, .int .i64 y.from_, .int .i64 y.until_, .int .i64 y.known, .int .i64 y.gone] 67)).heap.size, 0, none⟩) 8 8] ((wr.alloc (.cells #[.int .i64 y.no, .int .i64 y.kind, .int .i64 y.a, .int .i64 y.b, .int .i64 y.from_, .int .i64 y.until_, .int .i64 y.known, .int .i64 y.gone] 67)).alloc (.cells #[.iface 3 (.int .i64 y.no), .iface 3 (.int .i64 y.kind), .iface 3 (.int .i64 y.a), .iface 3 (.int .i64 y.b), .iface 3 (.int .i64 y.from_), .iface 3 (.int .i64 y.until_), .iface 3 (.int .i64 y.known), .iface 3 (.int .i64 y.gone)] 20)) _ := put_nums b _ (entR y) ⟨#[101, 110, 116, 114, 121]⟩ (wr.alloc (.cells #[.int .i64 y.no, .int .i64 y.kind, .int .i64 y.a, .int .i64 y.b, .int .i64 y.from_, .int .i64 y.until_, .int .i64 y.known, .int .i64 y.gone] 67)) rfl I2.p (I2.room hr9.out hm hs.seed hhd) (Nat.le_of_ble_eq_true rfl) (hG.below I2.k.bl)
                        rw [show (wr.alloc (.cells #[.int .i64 y.no, .int .i64 y.kind, .int .i64 y.a, .int .i64 y.b, .int .i64 y.from_, .int .i64 y.until_, .int .i64 y.known, .int .i64 y.gone] 67)).heap.size = wr.heap.size + 1 by simp] at q
                        replace I2 := Lib.hid I2
                        clear BY hc
                        cases hok : okR (entR y) with
                        | false =>
                          replace hok := Lib.hid hok
                          go_wp2_with (go_at_call 43; (with_reducible refine q.mono ?_); rintro e w5 ⟨-, h9, k5⟩; replace h9 := h9 hok.out; unfold PanW at h9; subst h9)
                          have hk9 := I2.out.k.trans k5
                          have B9 := k5.blk I2.out.bk (by omega) (by decide)
                          have r9 := World.cell?_setCell_same _ _ (.bool false) ((B9.alloc (.cells #[] 151)).cell 0)
                          refine rdoor_panic _ true _ (.bool false) B9 (by simp [results, Tryz.results19, go_sem, r9]) (WPost.no (bad_row hr9.out hok.out) ?_)
                          exact ((hk9.bl.alloc (Nat.le_trans (Nat.le_of_lt hbW) hk9.bl.size) _).setCell (p := ⟨W.heap.size + 1, 0, none⟩) (by show b ≤ W.heap.size + 1; omega) _)
                        | true =>
                          replace hok := Lib.hid hok
                          go_wp2_with (go_at_call 43; (with_reducible refine q.mono ?_); rintro e w5 ⟨h9, -, k5⟩; obtain ⟨rfl, h5⟩ := h9 hok.out)
                          exact ⟨⟨k + 1, by omega, by go_num, Lib.hid (by rw [take_map _ hy.out]; exact I2.out.put h5 k5 hok.out hbW)⟩, by simp [intOf]; omega⟩
                      · have hk9 : Hid (x.ents.take k = x.ents) := Lib.hid (List.take_of_length_le (by omega))
                        have I1 : Hid (WI b W.heap.size X x W wr (((((((x.base.zip x.leg).map clsR ++ x.tiers.map tieR) ++ x.lines.flatMap linR) ++ x.orders.map odrR) ++ x.ents.map entR)))) := Lib.hid (by have := hI.out; rw [hk9.out] at this; exact this)
                        have t0 := (I1.out.bx.cell 9).trans A9
                        go_wp2_with fail
                        go_loopw [226] (fun i wr => ∃ k : Nat, k ≤ x.secs.length ∧ i = .int .i64 k ∧ Hid (WI b W.heap.size X x W wr (((((((x.base.zip x.leg).map clsR ++ x.tiers.map tieR) ++ x.lines.flatMap linR) ++ x.orders.map odrR) ++ x.ents.map entR)) ++ (x.secs.take k).map secR))) (fun i _ => x.secs.length - (intOf i).toNat)
                        case atStart => exact ⟨0, Nat.zero_le _, rfl, Lib.hid (by rw [List.take_zero]; simpa using I1.out)⟩
                        case round =>
                          clear t0
                          obtain ⟨k, hkn, rfl, hI⟩ := hrel
                          by_cases hlt : k < x.secs.length
                          · obtain ⟨y, hy⟩ : ∃ y, Hid (x.secs[k]? = some y) := ⟨_, Lib.hid (List.getElem?_eq_getElem hlt)⟩
                            obtain ⟨b1, o1, rfl, l1, hc⟩ := (hrs.below hI.out.k.bl).2 (by omega)
                            have c0 := hc k _ (ints_at hy.out)
                            have i0 : (0 : Int) ≤ (k : Int) := by omega
                            have i1 : (k : Int) < (x.secs.length : Int) := by omega
                            have hr9 : Hid (x.rows = _ ++ secR y :: _) := Lib.hid (split_map hsp5.out hy.out)
                            have I2 := hI.out
                            have q : Calls Tryz.prog 43 #[.pointer (some ⟨b, 0, none⟩), .string ⟨#[115, 101, 99, 114, 101, 116]⟩, .slice (some ⟨wr.heap.size, 0, none⟩) 1 1] (wr.alloc (.cells #[.iface 3 (.int .i64 y)] 20)) _ := put_nums b _ (secR y) ⟨#[115, 101, 99, 114, 101, 116]⟩ wr rfl I2.p (I2.room hr9.out hm hs.seed hhd) (Nat.le_of_ble_eq_true rfl) (hG.below I2.k.bl)
                            clear hc
                            replace I2 := Lib.hid I2
                            cases hok : okR (secR y) with
                            | false =>
                              replace hok := Lib.hid hok
                              go_wp2_with (go_at_call 43; (with_reducible refine q.mono ?_); rintro e w5 ⟨-, h9, k5⟩; replace h9 := h9 hok.out; unfold PanW at h9; subst h9)
                              have hk9 := I2.out.k.trans k5
                              have B9 := k5.blk I2.out.bk (by omega) (by decide)
                              have r9 := World.cell?_setCell_same _ _ (.bool false) ((B9.alloc (.cells #[] 151)).cell 0)
                              refine rdoor_panic _ true _ (.bool false) B9 (by simp [results, Tryz.results19, go_sem, r9]) (WPost.no (bad_row hr9.out hok.out) ?_)
                              exact ((hk9.bl.alloc (Nat.le_trans (Nat.le_of_lt hbW) hk9.bl.size) _).setCell (p := ⟨W.heap.size + 1, 0, none⟩) (by show b ≤ W.heap.size + 1; omega) _)
                            | true =>
                              replace hok := Lib.hid hok
                              go_wp2_with (go_at_call 43; (with_reducible refine q.mono ?_); rintro e w5 ⟨h9, -, k5⟩; obtain ⟨rfl, h5⟩ := h9 hok.out)
                              exact ⟨⟨k + 1, by omega, by go_num, Lib.hid (by rw [take_map _ hy.out]; exact I2.out.put h5 k5 hok.out hbW)⟩, by simp [intOf]; omega⟩
                          · have hk9 : Hid (x.secs.take k = x.secs) := Lib.hid (List.take_of_length_le (by omega))
                            have I1 : Hid (WI b W.heap.size X x W wr ((((((((x.base.zip x.leg).map clsR ++ x.tiers.map tieR) ++ x.lines.flatMap linR) ++ x.orders.map odrR) ++ x.ents.map entR) ++ x.secs.map secR)))) := Lib.hid (by have := hI.out; rw [hk9.out] at this; exact this)
                            have t0 := (I1.out.bx.cell 42).trans A10
                            go_wp2_with fail
                            go_loopw [239] (fun i wr => ∃ k : Nat, k ≤ x.faults.length ∧ i = .int .i64 k ∧ Hid (WI b W.heap.size X x W wr ((((((((x.base.zip x.leg).map clsR ++ x.tiers.map tieR) ++ x.lines.flatMap linR) ++ x.orders.map odrR) ++ x.ents.map entR) ++ x.secs.map secR)) ++ (x.faults.take k).map slpR))) (fun i _ => x.faults.length - (intOf i).toNat)
                            case atStart => exact ⟨0, Nat.zero_le _, rfl, Lib.hid (by rw [List.take_zero]; simpa using I1.out)⟩
                            case round =>
                              clear t0
                              obtain ⟨k, hkn, rfl, hI⟩ := hrel
                              by_cases hlt : k < x.faults.length
                              · obtain ⟨y, hy⟩ : ∃ y, Hid (x.faults[k]? = some y) := ⟨_, Lib.hid (List.getElem?_eq_getElem hlt)⟩
                                obtain ⟨b1, o1, rfl, l1, hc⟩ := Cl_at (f := Slp.cl) (fun _ _ => rfl) (hrf.below hI.out.k.bl) hlt hy.out
                                have c0 := hc 0 (by omega)
                                have c1 := hc 1 (by omega)
                                have c2 := hc 2 (by omega)
                                have c3 := hc 3 (by omega)
                                simp only [Slp.cl, List.getElem?_cons_zero, List.getElem?_cons_succ, Nat.add_zero] at c0 c1 c2 c3
                                have i0 : (0 : Int) ≤ (k : Int) := by omega
                                have i1 : (k : Int) < (x.faults.length : Int) := by omega
                                have hr9 : Hid (x.rows = _ ++ slpR y :: _) := Lib.hid (split_map hsp6.out hy.out)
                                have BY := Blk.new wr 71 #[.int .i64 y.run, .int .i64 y.leg, .int .i64 y.kind, .int .i64 y.at_] _ rfl
                                have d0 := BY.cell 0
                                have d1 := BY.cell 1
                                have d2 := BY.cell 2
                                have d3 := BY.cell 3
                                have I2 := hI.out.al (.cells #[.int .i64 y.run, .int .i64 y.leg, .int .i64 y.kind, .int .i64 y.at_] 71)
                                have q : Calls Tryz.prog 43 #[.pointer (some ⟨b, 0, none⟩), .string ⟨#[102, 97, 117, 108, 116]⟩, .slice (some ⟨(wr.alloc (.cells #[.int .i64 y.run, .int .i64 y.leg, .int .i64 y.kind, .int .i64 y.at_] 71)).heap.size, 0, none⟩) 4 4] ((wr.alloc (.cells #[.int .i64 y.run, .int .i64 y.leg, .int .i64 y.kind, .int .i64 y.at_] 71)).alloc (.cells #[.iface 3 (.int .i64 y.run), .iface 3 (.int .i64 y.leg), .iface 3 (.int .i64 y.kind), .iface 3 (.int .i64 y.at_)] 20)) _ := put_nums b _ (slpR y) ⟨#[102, 97, 117, 108, 116]⟩ (wr.alloc (.cells #[.int .i64 y.run, .int .i64 y.leg, .int .i64 y.kind, .int .i64 y.at_] 71)) rfl I2.p (I2.room hr9.out hm hs.seed hhd) (Nat.le_of_ble_eq_true rfl) (hG.below I2.k.bl)
                                rw [show (wr.alloc (.cells #[.int .i64 y.run, .int .i64 y.leg, .int .i64 y.kind, .int .i64 y.at_] 71)).heap.size = wr.heap.size + 1 by simp] at q
                                replace I2 := Lib.hid I2
                                clear BY hc
                                cases hok : okR (slpR y) with
                                | false =>
                                  replace hok := Lib.hid hok
                                  go_wp2_with (go_at_call 43; (with_reducible refine q.mono ?_); rintro e w5 ⟨-, h9, k5⟩; replace h9 := h9 hok.out; unfold PanW at h9; subst h9)
                                  have hk9 := I2.out.k.trans k5
                                  have B9 := k5.blk I2.out.bk (by omega) (by decide)
                                  have r9 := World.cell?_setCell_same _ _ (.bool false) ((B9.alloc (.cells #[] 151)).cell 0)
                                  refine rdoor_panic _ true _ (.bool false) B9 (by simp [results, Tryz.results19, go_sem, r9]) (WPost.no (bad_row hr9.out hok.out) ?_)
                                  exact ((hk9.bl.alloc (Nat.le_trans (Nat.le_of_lt hbW) hk9.bl.size) _).setCell (p := ⟨W.heap.size + 1, 0, none⟩) (by show b ≤ W.heap.size + 1; omega) _)
                                | true =>
                                  replace hok := Lib.hid hok
                                  go_wp2_with (go_at_call 43; (with_reducible refine q.mono ?_); rintro e w5 ⟨h9, -, k5⟩; obtain ⟨rfl, h5⟩ := h9 hok.out)
                                  exact ⟨⟨k + 1, by omega, by go_num, Lib.hid (by rw [take_map _ hy.out]; exact I2.out.put h5 k5 hok.out hbW)⟩, by simp [intOf]; omega⟩
                              · have hk9 : Hid (x.faults.take k = x.faults) := Lib.hid (List.take_of_length_le (by omega))
                                have I1 : Hid (WI b W.heap.size X x W wr (((((((((x.base.zip x.leg).map clsR ++ x.tiers.map tieR) ++ x.lines.flatMap linR) ++ x.orders.map odrR) ++ x.ents.map entR) ++ x.secs.map secR) ++ x.faults.map slpR)))) := Lib.hid (by have := hI.out; rw [hk9.out] at this; exact this)
                                have e4 := I1.out.bk.cell 0
                                have z4 := I1.out.bk.frozen 0
                                have hw9 : Hid (wr.setCell ⟨W.heap.size + 1, 0, none⟩ (.bool true) = wr) := Lib.hid (set_back I1.out.bk)
                                have hok : x.okW = true := by unfold Wld.okW; rw [show (okN x.people && (okN x.covers && okN x.offs)) = okHead x from rfl, hhd]; have := I1.out.ok; unfold Wld.rows; simpa using this
                                have hpt : PAt wr b x.text := by have := I1.out.p; unfold Wld.text Wld.rows; simpa using this
                                replace hok := Lib.hid hok
                                replace hpt := Lib.hid hpt
                                go_wp2_with fail
                                rw [hw9.out]
                                exact rdoor_idle _ wr (.bool true) (by simp [results, Tryz.results19, go_sem, e4]) (WPost.yes hok.out hpt.out I1.out.k.bl)
end Go.Proofs.YtmbopkcmbiommaaGreatDoor
