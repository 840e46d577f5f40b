/-
  frankinglaw55.PathsBare, walked.
-/
import Derived.Test.YthgppaiiapkdjaaDoorMbn
import Derived.Test.YthgppaiiapkdjaaDoorMbr
import Derived.Test.YthgppaiiapkdjaaDoorZLwL
namespace Go.Proofs.YthgppaiiapkdjaaDoor
open Go.RowKit

def Wd.cl (w : Wd) : List Value := [.int .i64 w.x, .int .i64 w.y, .int .i64 w.z]
theorem Wd_at {w : World} {B n k : Nat} {A : Option Addr} {l : List Wd} {x : Wd} (h : Rd w B 3 A n (l.flatMap Wd.cl)) (hn : k < n) (hx : l[k]? = some x) :
    ∃ b off, A = some ⟨b, off, none⟩ ∧ b < B ∧ w.cell? ⟨b, off + k * 3, none⟩ = some (.int .i64 x.x) ∧ w.cell? ⟨b, off + k * 3 + 1, none⟩ = some (.int .i64 x.y) ∧ w.cell? ⟨b, off + k * 3 + 2, none⟩ = some (.int .i64 x.z) := by
  obtain ⟨b, off, hA, hb, hc⟩ := h.2 (by omega)
  have f := fun j (hj : j < 3) => flat_mem (f := Wd.cl) (sz := 3) l k j x (fun _ _ => rfl) hx hj
  refine ⟨b, off, hA, hb, hc _ _ ((f 0 (by omega)).trans rfl), ?_, ?_⟩
  · rw [Nat.add_assoc]; exact hc _ _ ((f 1 (by omega)).trans rfl)
  · rw [Nat.add_assoc]; exact hc _ _ ((f 2 (by omega)).trans rfl)
def sealF (J : Int) (w r : Wd) : Ltr := moreL J r.x r.y r.z (seal0 w.x w.y w.z)
def sealsL (J : Int) (ws rs : List Wd) : List Ltr := List.zipWith (sealF J) ws rs
theorem sealsL_at {J : Int} {ws rs : List Wd} {k : Nat} {w r : Wd} (hw : ws[k]? = some w) (hr : rs[k]? = some r) : (sealsL J ws rs)[k]? = some (sealF J w r) := by
  unfold sealsL; rw [List.getElem?_zipWith, hw, hr]
theorem sealsL_length {J : Int} {ws rs : List Wd} (h : rs.length = ws.length) : (sealsL J ws rs).length = ws.length := by
  unfold sealsL; rw [List.length_zipWith, h, Nat.min_self]
theorem sealsL_chk {J : Int} {ws rs : List Wd} (h : rs.length = ws.length) (h4 : ws.length ≤ 4) (hJ : validB J = true) (hok : ∀ w ∈ ws, w.ok) : chkL (sealsL J ws rs) = 0 := by
  refine chkL_ok.2 ⟨by rw [sealsL_length h]; omega, ?_⟩
  rw [List.all_eq_true]
  intro y hy
  obtain ⟨i, hi⟩ := List.getElem?_of_mem hy
  have hlt : i < ws.length := by have := (List.getElem?_eq_some_iff.1 hi).1; rwa [sealsL_length h] at this
  rw [sealsL_at (List.getElem?_eq_getElem hlt) (List.getElem?_eq_getElem (show i < rs.length by omega))] at hi
  obtain rfl := Option.some.inj hi
  exact seal_good hJ (hok _ (List.getElem_mem hlt))
theorem sealE_ok {J : Int} {w : Wd} (h : sealE J w.x w.y w.z = 0) : w.ok := by
  unfold sealE at h
  split at h
  · split at h
    · rename_i hb; exact sealB_ok.1 hb
    · omega
  · omega
theorem take_next {α : Type} {l : List α} {k : Nat} {x : α} (h : l[k]? = some x) : l.take (k + 1) = l.take k ++ [x] := by
  obtain ⟨hk, rfl⟩ := List.getElem?_eq_some_iff.1 h
  exact List.take_succ_eq_append_getElem hk
theorem case_W {cs : Array Value} (h : cs.size = 15) (a b c : Value) : (cs.toList.take 7 ++ (#[a, b, c] : Array Value).toList ++ cs.toList.drop (7 + (#[a, b, c] : Array Value).size)).toArray = ((cs.setIfInBounds 7 a).setIfInBounds 8 b).setIfInBounds 9 c := by
  obtain ⟨l⟩ := cs
  match l, h with
  | [_, _, _, _, _, _, _, _, _, _, _, _, _, _, _], _ => rfl
theorem words_info : (Tryd.prog.info? 28).map (·.size) = some 3 := by kernel_rfl
set_option maxRecDepth 100000 in
set_option maxHeartbeats 16000000 in
theorem lw_pbare (hS : SaneOk) (hP : CheckOk) (As Aw Ar : Option Addr) (ca cw cr : Nat) (ss : List Int) (ws rs : List Wd) (p : Int) (o : Wd) (W : World) (hG : ShaG W) (hA : Rd W W.heap.size 1 As ss.length (ints ss))
    (hWs : Rd W W.heap.size 3 Aw ws.length (ws.flatMap Wd.cl)) (hRs : Rd W W.heap.size 3 Ar rs.length (rs.flatMap Wd.cl)) :
    Calls Tryd.prog 5 #[.slice As ss.length ca, .slice Aw ws.length cw, .slice Ar rs.length cr, .int .i64 p, .agg #[.int .i64 o.x, .int .i64 o.y, .int .i64 o.z]] W (Ret (.bool true) W) := by
  have BO := Blk.new W 28 #[.int .i64 o.x, .int .i64 o.y, .int .i64 o.z] _ rfl
  have hb := bAl (bRefl W) (.cells #[.int .i64 o.x, .int .i64 o.y, .int .i64 o.z] 28)
  go_enter Tryd.func5, Tryd.ntmps5
  go_upto_region 1 with fail
  generalize W.alloc (.cells #[.int .i64 o.x, .int .i64 o.y, .int .i64 o.z] 28) = w1 at *
  have q := hS w1 (hG.below hb)
  go_wp2_with fail
  (with_reducible refine q.mono ?_)
  rintro e w2 ⟨rfl, b2⟩
  clear q
  have BO2 := BO.below b2 BO.lt
  have hb2 := bCall hb b2
  clear BO hb b2
  by_cases g1 : (ss.length : Int) < 2
  case pos =>
    go_wp2_with fail
    go_ret
    exact ⟨rfl, hb2⟩
  by_cases g2 : (4 : Int) < (ss.length : Int)
  case pos =>
    go_wp2_with fail
    go_ret
    exact ⟨rfl, hb2⟩
  by_cases g3 : (4 : Int) < (ws.length : Int)
  case pos =>
    go_wp2_with fail
    go_ret
    exact ⟨rfl, hb2⟩
  by_cases hlr : rs.length = ws.length
  case neg =>
    have g4 : ((rs.length : Int) == (ws.length : Int)) = false := by rw [beq_eq_false_iff_ne]; omega
    go_wp2_with fail
    go_ret
    exact ⟨rfl, hb2⟩
  have g4 : ((rs.length : Int) == (ws.length : Int)) = true := by rw [beq_iff_eq]; omega
  by_cases g5 : p < 0
  case pos =>
    go_wp2_with fail
    go_ret
    exact ⟨rfl, hb2⟩
  by_cases g6 : (ws.length : Int) ≤ p
  case pos =>
    go_wp2_with fail
    go_ret
    exact ⟨rfl, hb2⟩
  obtain ⟨pn, rfl⟩ : ∃ pn : Nat, p = (pn : Int) := ⟨p.toNat, by omega⟩
  have Hpn : Hid (pn < ws.length) := Lib.hid (by omega)
  go_wp2_with fail
  clear g4 g5 g6
  rename (_ ∧ ¬ ws.length ≤ pn) => hdead
  clear hdead
  go_loopw [11, 12] (fun s11 i wr => ∃ (k : Nat) (kv : Value), k ≤ ss.length ∧ i = .int .i64 k ∧ s11 = kv ∧ Below W.heap.size W wr ∧ Blk wr W.heap.size 28 #[.int .i64 o.x, .int .i64 o.y, .int .i64 o.z] ∧ wr.ownsRow W.heap.size 3 1 kv k (ints ((ss.take k).map pubV)) ∧ Hid (∀ s ∈ ss.take k, secB s = true)) (fun _ i _ => ss.length - (intOf i).toNat)
  case atStart => exact ⟨0, _, Nat.zero_le _, rfl, rfl, hb2, BO2, World.ownsRow_nil _ _ _ _, Lib.hid (by simp)⟩
  case round =>
    clear BO2 hb2
    obtain ⟨k, kv, hkn, rfl, hkv, hb, BO, hok, hsk⟩ := hrel
    replace hkv := hkv.symm
    subst hkv
    by_cases hlt : k < ss.length
    · obtain ⟨s, hs0⟩ : ∃ s, Hid (ss[k]? = some s) := ⟨_, Lib.hid (List.getElem?_eq_getElem hlt)⟩
      obtain ⟨b, off, hAs, hbb, c0⟩ := Int_at (hA.below hb) hlt hs0.out
      subst hAs
      have q1 := el_public s wr
      have j0 : (0 : Int) ≤ (k : Int) := by omega
      have j1 : (k : Int) < (ss.length : Int) := by omega
      by_cases hsec : secB s = true
      case neg =>
        have e1 : pubE s = 110 := by unfold pubE; rw [if_neg hsec]
        rw [e1] at q1
        clear e1 hsec
        go_wp2_with fail
        (with_reducible refine q1.mono ?_)
        rintro e w5 ⟨rfl, b5⟩
        go_wp2_with fail
        go_ret
        exact ⟨rfl, bCall hb b5⟩
      have e1 : pubE s = 0 := by unfold pubE; rw [if_pos hsec]; unfold powE; rw [if_pos valid_four]
      rw [e1] at q1
      have Hsec := Lib.hid hsec
      clear e1 hsec
      go_wp2_with fail
      (with_reducible refine q1.mono ?_)
      rintro e w5 ⟨rfl, b5⟩
      have BO5 := BO.below b5 BO.lt
      have hb5 := bCall hb b5
      have ok5 := ownsRow_keep hok b5
      clear BO hb hok q1 c0 b5
      go_upto_region 12 with fail
      apply wp_region_lit
      iterate 9 go_step
      refine wpList_append1G w5 [.int .i64 (pubV s)] (.tmp 78) (.tmp 80) 25 W.heap.size 3 (.int .i64 0) 1 8 kv k _ rfl rfl Tryd.underlying25 int_info rfl (by omega) rfl ok5 rfl rfl (by intro u hu; simp only [List.mem_cons, List.not_mem_nil, or_false] at hu; subst hu; rfl) (by unfold maxLen; omega) (by omega) hb5.size (fun v6 w6 ok6 hg6 => ?_)
      obtain ⟨gk, ck, rfl⟩ := ownsRow_succ ok6
      have BO6 := hg6.blk ok5 BO5 (by decide)
      have hb6 := hb5.trans (hg6.below ok5 hb5.size)
      have ht := Lib.hid (take_next hs0.out)
      clear BO5 hb5 ok5
      go_wp2_with fail
      refine ⟨⟨k + 1, _, by omega, by go_num, rfl, hb6, BO6, ?_, Lib.hid ?_⟩, by simp [intOf]; omega⟩
      · rw [ht.out, List.map_append]
        show w6.ownsRow _ _ _ _ _ (ints (List.map pubV (ss.take k) ++ [pubV s]))
        rw [show ints (List.map pubV (ss.take k) ++ [pubV s]) = ints (List.map pubV (ss.take k)) ++ [.int .i64 (pubV s)] by simp [ints]]
        exact ok6
      · rw [ht.out]
        intro x hx
        rcases List.mem_append.1 hx with hx | hx
        · exact hsk.out x hx
        · obtain rfl : x = s := by simpa using hx
          exact Hsec.out
    · obtain rfl : k = ss.length := by omega
      rw [List.take_length] at hok hsk
      obtain ⟨A1, d1, rfl, hR1⟩ := Rd.of_own hok
      have hkv := Lib.hid (keys_valid hsk.out)
      obtain ⟨J, hJ⟩ : ∃ J, Hid (J = (restL (ss.map pubV)).getD 0 0) := ⟨_, Lib.hid rfl⟩
      have hJv : Hid (validB J = true) := Lib.hid (by rw [hJ.out]; exact rest_head_valid hkv.out)
      have hjj : joinV (ss.map pubV) = J ∧ joinE (ss.map pubV) = 0 := by rw [hJ.out]; exact join_rest hkv.out
      have qj := join_any A1 ss.length d1 (ss.map pubV) J _ hR1 (by omega) hjj
      clear hjj hok hR1
      go_wp2_with fail
      (with_reducible refine qj.mono ?_)
      rintro e w7 ⟨rfl, hw7⟩
      subst hw7
      clear qj
      go_wp2_with fail
      go_loopw [17, 18] (fun s17 i wr => ∃ (k : Nat) (fv : Value), k ≤ ws.length ∧ i = .int .i64 k ∧ s17 = fv ∧ Below W.heap.size W wr ∧ Blk wr W.heap.size 28 #[.int .i64 o.x, .int .i64 o.y, .int .i64 o.z] ∧ wr.ownsRow W.heap.size 56 6 fv k (((sealsL J ws rs).take k).flatMap Ltr.cl) ∧ Hid (∀ w ∈ ws.take k, w.ok)) (fun _ i _ => ws.length - (intOf i).toNat)
      case atStart => exact ⟨0, _, Nat.zero_le _, rfl, rfl, hb, BO, World.ownsRow_nil _ _ _ _, Lib.hid (by simp)⟩
      case round =>
        clear BO hb
        obtain ⟨k, fv, hkn2, rfl, hfv, hb, BO, hok, hwk⟩ := hrel
        replace hfv := hfv.symm
        subst hfv
        by_cases hlt2 : k < ws.length
        · obtain ⟨wv, hw0⟩ : ∃ wv, Hid (ws[k]? = some wv) := ⟨_, Lib.hid (List.getElem?_eq_getElem hlt2)⟩
          obtain ⟨rv, hr0⟩ : ∃ rv, Hid (rs[k]? = some rv) := ⟨_, Lib.hid (List.getElem?_eq_getElem (show k < rs.length by omega))⟩
          obtain ⟨b, off, hAw, hbb, c0, c1, c2⟩ := Wd_at hWs hlt2 hw0.out
          obtain ⟨b', off', hAr, hbb', c3, c4, c5⟩ := Wd_at hRs (show k < rs.length by omega) hr0.out
          subst hAw
          subst hAr
          have j0 : (0 : Int) ≤ (k : Int) := by omega
          have j1 : (k : Int) < (ws.length : Int) := by omega
          have j2 : (k : Int) < (rs.length : Int) := by omega
          obtain ⟨sv, hsv⟩ : ∃ sv, sv = sealV J wv.x wv.y wv.z rv.x rv.y rv.z := ⟨_, rfl⟩
          obtain ⟨se, hse⟩ : ∃ se, se = sealE J wv.x wv.y wv.z := ⟨_, rfl⟩
          have q : Hid (∀ w, Calls Tryd.prog 15 #[.int .i64 J, .agg #[.int .i64 wv.x, .int .i64 wv.y, .int .i64 wv.z], .agg #[.int .i64 rv.x, .int .i64 rv.y, .int .i64 rv.z]] w (Ret (.tuple #[.agg #[.int .i64 sv.a0, .int .i64 sv.b0, .int .i64 sv.a1, .int .i64 sv.b1, .int .i64 sv.a2, .int .i64 sv.b2], .int .i64 se]) w)) := by
            intro w
            rw [hsv, hse]
            exact el_seal _ _ _ _ _ _ _ w
          have Hsv := Lib.hid hsv
          have Hse := Lib.hid hse
          clear hsv hse
          have KS : Hid (∀ w', Below wr.heap.size wr w' → _) := Lib.hid (fun w' d => and6 (((bCall hb d).cell (p := ⟨b, off + k * 3, none⟩) hbb).trans c0) (((bCall hb d).cell (p := ⟨b, off + k * 3 + 1, none⟩) hbb).trans c1) (((bCall hb d).cell (p := ⟨b, off + k * 3 + 2, none⟩) hbb).trans c2)
            (((bCall hb d).cell (p := ⟨b', off' + k * 3, none⟩) hbb').trans c3) (((bCall hb d).cell (p := ⟨b', off' + k * 3 + 1, none⟩) hbb').trans c4) (((bCall hb d).cell (p := ⟨b', off' + k * 3 + 2, none⟩) hbb').trans c5))
          go_upto_region 20 with fail
          go_cut [19, 20] from 95 to 107 (fun s19 s20 wc => ∃ lb, s19 = .pointer (some ⟨lb, 0, none⟩) ∧ s20 = .int .i64 se ∧ Blk wc lb 56 #[.int .i64 sv.a0, .int .i64 sv.b0, .int .i64 sv.a1, .int .i64 sv.b1, .int .i64 sv.a2, .int .i64 sv.b2] ∧ Below wr.heap.size wr wc)
          case first =>
            go_region_held3 (fun w' => w'.cell? ⟨b, off + k * 3, none⟩ = some (.int .i64 wv.x) ∧ w'.cell? ⟨b, off + k * 3 + 1, none⟩ = some (.int .i64 wv.y) ∧ w'.cell? ⟨b, off + k * 3 + 2, none⟩ = some (.int .i64 wv.z) ∧ w'.cell? ⟨b', off' + k * 3, none⟩ = some (.int .i64 rv.x) ∧ w'.cell? ⟨b', off' + k * 3 + 1, none⟩ = some (.int .i64 rv.y) ∧ w'.cell? ⟨b', off' + k * 3 + 2, none⟩ = some (.int .i64 rv.z))
              (exact KS.out _ (by repeat (first | with_reducible exact B7 | with_reducible exact bRefl _ | with_reducible refine bAl ?_ _ | with_reducible refine bDr ?_ | with_reducible refine bSet ?_ (by exact Nat.le_refl _) _)))
              (first
              | (go_simp; go_at_call 15; (with_reducible refine (q.out _).mono ?_); rintro e w7 ⟨rfl, b7⟩; have B7 : Below wr.heap.size wr w7 := bCall (by repeat (first | exact bRefl _ | refine bAl ?_ _ | refine bDr ?_)) b7; (try (have BZ : Blk w7 wr.heap.size 56 #[.int .i64 0, .int .i64 0, .int .i64 0, .int .i64 0, .int .i64 0, .int .i64 0] := Blk.below (by first | exact Blk.new _ _ _ _ rfl | exact Blk.dr (Blk.new _ _ _ _ rfl)) b7 (by simp); obtain ⟨k0, k1, k2, k3, k4, k5⟩ := BZ.six; obtain ⟨z0, z1, z2, z3, z4, z5⟩ := BZ.six_free))))
            all_goals
              go_wp2_with fail
              go_meet
              first
                | (with_reducible refine ⟨_, rfl, rfl, Blk.new _ _ _ _ rfl, bAl B7 _⟩; done)
                | exact ⟨_, rfl, rfl, BZ.set6 (.int .i64 sv.a0) (.int .i64 sv.b0) (.int .i64 sv.a1) (.int .i64 sv.b1) (.int .i64 sv.a2) (.int .i64 sv.b2), bSet6 B7 (Nat.le_refl _) (.int .i64 sv.a0) (.int .i64 sv.b0) (.int .i64 sv.a1) (.int .i64 sv.b1) (.int .i64 sv.a2) (.int .i64 sv.b2)⟩
          case rest =>
            obtain ⟨lb, rfl, rfl, BS, b8⟩ := hcut
            have BO8 := BO.below b8 BO.lt
            have hb8 := bCall hb b8
            have ok8 := ownsRow_keep hok b8
            clear KS q BO hb hok b8
            by_cases hse : se = 0
            case neg =>
              have t : (se == 0) = false := by rw [beq_eq_false_iff_ne]; exact hse
              go_wp2_with fail
              go_ret
              exact ⟨rfl, hb8⟩
            have hwok : Hid (wv.ok) := Lib.hid (sealE_ok (J := J) (by rw [← Hse.out]; exact hse))
            subst hse
            have hsl : Hid (sv = sealF J wv rv) := Lib.hid (by rw [Hsv.out]; exact (seal_is hwok.out hJv.out rv.x rv.y rv.z).1)
            obtain ⟨s0, s1, s2, s3, s4, s5⟩ := BS.six
            go_upto_region 23 with fail
            apply wp_region_lit
            iterate 9 go_step
            refine wpList_append1G wc [.int .i64 sv.a0, .int .i64 sv.b0, .int .i64 sv.a1, .int .i64 sv.b1, .int .i64 sv.a2, .int .i64 sv.b2] (.tmp 110) (.tmp 112) 24 W.heap.size 56 zLtr 6 48 fv k _ rfl rfl Tryd.underlying24 sealed_info4 rfl (by omega) rfl ok8 rfl rfl (by intro u hu; simp only [List.mem_cons, List.not_mem_nil, or_false] at hu; rcases hu with rfl | rfl | rfl | rfl | rfl | rfl <;> rfl) (by unfold maxLen; omega) (by omega) hb8.size (fun v6 w6 ok6 hg6 => ?_)
            obtain ⟨gk, ck, rfl⟩ := ownsRow_succ ok6
            have BO6 := hg6.blk ok8 BO8 (by decide)
            have hb6 := hb8.trans (hg6.below ok8 hb8.size)
            have ht := Lib.hid (take_next hw0.out)
            have ht2 := Lib.hid (take_next (sealsL_at (J := J) hw0.out hr0.out))
            clear BO8 hb8 ok8 s0 s1 s2 s3 s4 s5 BS
            go_wp2_with fail
            refine ⟨⟨k + 1, _, by omega, by go_num, rfl, hb6, BO6, ?_, Lib.hid ?_⟩, by simp [intOf]; omega⟩
            · rw [ht2.out, List.flatMap_append, ← hsl.out]
              simpa [Ltr.cl] using ok6
            · rw [ht.out]
              intro x hx
              rcases List.mem_append.1 hx with hx | hx
              · exact hwk.out x hx
              · obtain rfl : x = wv := by simpa using hx
                exact hwok.out
        · obtain rfl : k = ws.length := by omega
          have hpn := Hpn.out
          have hFL := sealsL_length (J := J) hlr
          rw [List.take_length] at hwk
          rw [List.take_of_length_le (by omega)] at hok
          obtain ⟨FL, hF⟩ : ∃ FL, Hid (FL = sealsL J ws rs) := ⟨_, Lib.hid rfl⟩
          rw [← hF.out] at hok hFL
          have hok' : wr.ownsRow W.heap.size 56 6 fv (0 + ws.length) ([] ++ FL.flatMap Ltr.cl) := by rw [Nat.zero_add, List.nil_append]; exact hok
          obtain ⟨g, cap, cur, rfl, hgb, BG, hnc, hcm, hcs, hct⟩ := own_some hok' (by omega)
          clear hok hok'
          obtain ⟨wv, hw0⟩ : ∃ wv, Hid (ws[pn]? = some wv) := ⟨_, Lib.hid (List.getElem?_eq_getElem hpn)⟩
          obtain ⟨rv, hr0⟩ : ∃ rv, Hid (rs[pn]? = some rv) := ⟨_, Lib.hid (List.getElem?_eq_getElem (show pn < rs.length by omega))⟩
          obtain ⟨b, off, hAw, hbb, c0, c1, c2⟩ := Wd_at hWs hpn hw0.out
          obtain ⟨b', off', hAr, hbb', c3, c4, c5⟩ := Wd_at hRs (show pn < rs.length by omega) hr0.out
          subst hAw
          subst hAr
          have j0 : (0 : Int) ≤ (pn : Int) := by omega
          have j1 : (pn : Int) < (ws.length : Int) := by omega
          have j2 : (pn : Int) < (rs.length : Int) := by omega
          have KS : Hid (∀ w', Below wr.heap.size wr w' → _) := Lib.hid (fun w' d => and6 (((bCall hb d).cell (p := ⟨b, off + pn * 3, none⟩) hbb).trans c0) (((bCall hb d).cell (p := ⟨b, off + pn * 3 + 1, none⟩) hbb).trans c1) (((bCall hb d).cell (p := ⟨b, off + pn * 3 + 2, none⟩) hbb).trans c2)
            (((bCall hb d).cell (p := ⟨b', off' + pn * 3, none⟩) hbb').trans c3) (((bCall hb d).cell (p := ⟨b', off' + pn * 3 + 1, none⟩) hbb').trans c4) (((bCall hb d).cell (p := ⟨b', off' + pn * 3 + 2, none⟩) hbb').trans c5))
          go_upto_region 24 with fail
          go_cut [21] from 114 to 123 (fun s21 wc => ∃ pb, s21 = .pointer (some ⟨pb, 0, none⟩) ∧ Blk wc pb 31 #[.int .i64 pn, .int .i64 wv.x, .int .i64 wv.y, .int .i64 wv.z, .int .i64 rv.x, .int .i64 rv.y, .int .i64 rv.z, .slice none 0 0] ∧ Below wr.heap.size wr wc)
          case first =>
            go_region_held3 (fun w' => w'.cell? ⟨b, off + pn * 3, none⟩ = some (.int .i64 wv.x) ∧ w'.cell? ⟨b, off + pn * 3 + 1, none⟩ = some (.int .i64 wv.y) ∧ w'.cell? ⟨b, off + pn * 3 + 2, none⟩ = some (.int .i64 wv.z) ∧ w'.cell? ⟨b', off' + pn * 3, none⟩ = some (.int .i64 rv.x) ∧ w'.cell? ⟨b', off' + pn * 3 + 1, none⟩ = some (.int .i64 rv.y) ∧ w'.cell? ⟨b', off' + pn * 3 + 2, none⟩ = some (.int .i64 rv.z))
              (exact KS.out _ (by repeat (first | with_reducible exact bRefl _ | with_reducible refine bAl ?_ _ | with_reducible refine bDr ?_ | with_reducible refine bSet ?_ (by exact Nat.le_refl _) _)))
              (fail)
            all_goals
              go_wp2_with fail
              go_meet
              exact ⟨_, rfl, Blk.new _ _ _ _ rfl, by repeat (first | with_reducible exact bRefl _ | with_reducible refine bAl ?_ _ | with_reducible refine bDr ?_)⟩
          case rest =>
            obtain ⟨pb, rfl, BP, b8⟩ := hcut
            have BO8 := BO.below b8 BO.lt
            have BG8 := BG.below b8 BG.lt
            have hb8 := bCall hb b8
            clear KS BO BG hb b8
            have m0 : wc.cell? ⟨pb, 0, none⟩ = some (.int .i64 pn) := BP.cell 0
            have m1 : wc.cell? ⟨pb, 1, none⟩ = some (.int .i64 wv.x) := BP.cell 1
            have m2 : wc.cell? ⟨pb, 2, none⟩ = some (.int .i64 wv.y) := BP.cell 2
            have m3 : wc.cell? ⟨pb, 3, none⟩ = some (.int .i64 wv.z) := BP.cell 3
            have m4 : wc.cell? ⟨pb, 4, none⟩ = some (.int .i64 rv.x) := BP.cell 4
            have m5 : wc.cell? ⟨pb, 5, none⟩ = some (.int .i64 rv.y) := BP.cell 5
            have m6 : wc.cell? ⟨pb, 6, none⟩ = some (.int .i64 rv.z) := BP.cell 6
            have m7 : wc.cell? ⟨pb, 7, none⟩ = some (.slice none 0 0) := BP.cell 7
            have hchk : chkL FL = 0 := by rw [hF.out]; exact sealsL_chk hlr (by omega) hJv.out hwk.out
            have hwv : wv.ok := hwk.out wv (List.mem_of_getElem? hw0.out)
            have hLp : FL[pn]? = some (moreL ((restL (ss.map pubV)).getD 0 0) rv.x rv.y rv.z (seal0 wv.x wv.y wv.z)) := by rw [hF.out, sealsL_at hw0.out hr0.out, hJ.out]; rfl
            have hLp' : FL[((pn : Nat) : Int).toNat]? = some (moreL ((restL (ss.map pubV)).getD 0 0) rv.x rv.y rv.z (seal0 wv.x wv.y wv.z)) := by rw [Int.toNat_natCast]; exact hLp
            have hlen : (pn : Int) < (FL.length : Int) := by rw [hFL]; exact j1
            have hn0 : FL.length ≠ 0 := by rw [hFL]; omega
            have K1 : Hid ((bareCase ss FL pn wv rv.x rv.y rv.z).check = (0, 0, 0)) := Lib.hid (by
              rw [bareCase_check hsk.out (by omega) (by omega) hn0 hchk j0 hlen, if_pos ((bare_sealed_iff hsk.out hwv hLp').2 rfl)])
            obtain ⟨wy, K2, Kn, Ky⟩ : ∃ wy : Int, Hid ((bareCase ss FL pn o rv.x rv.y rv.z).check = (0, wy, 0)) ∧ Hid (o.eqB wv = false → wy = 1) ∧ Hid (o.eqB wv = true → wy = 0) := by
              by_cases h : o.eqB wv = true
              · refine ⟨0, Lib.hid ?_, Lib.hid (fun hh => by rw [h] at hh; cases hh), Lib.hid (fun _ => rfl)⟩
                rw [bareCase_check hsk.out (by omega) (by omega) hn0 hchk j0 hlen, if_pos ((bare_sealed_iff hsk.out hwv hLp').2 (Wd.eqB_iff.1 h))]
              · refine ⟨1, Lib.hid ?_, Lib.hid (fun _ => rfl), Lib.hid (fun hh => absurd hh h)⟩
                rw [bareCase_check hsk.out (by omega) (by omega) hn0 hchk j0 hlen, if_neg (fun hh => h (Wd.eqB_iff.2 ((bare_sealed_iff hsk.out hwv hLp').1 hh)))]
            have K3 : Hid ((bareCase ss FL pn wv rv.x (rv.y.tmod 1073741789 + 1) rv.z).check = (0, 1, 0)) := Lib.hid (by
              rw [bareCase_check hsk.out (by omega) (by omega) hn0 hchk j0 hlen, bare_sealed_next hsk.out hwv hLp']; rfl)
            obtain ⟨y, hy, hgy, hry⟩ := bare_says (w := wv) hwv (ss := ss) (b := FL) hsk.out hLp (seal_good (by rw [← hJ.out]; exact hJv.out) hwv) (enc_seal wv)
            have Hy := Lib.hid hy
            have Hgy := Lib.hid hgy
            have Hry := Lib.hid hry
            have hRF := Rd.of_blk BG8 hct (by rw [ltrs_len, hFL])
            rw [← hFL] at hRF
            unfold maxLen at hcm
            have qb := lw_bare As (some ⟨g, 0, none⟩) ca cap ss FL (pn : Int) wv.x wv.y wv.z rv.x rv.y rv.z wc hsk.out (by omega) hchk ⟨by omega, by omega⟩ ((hA.below hb8).more hb8.size) hRF (hG.below hb8)
            rw [hFL] at qb
            unfold pathA at qb
            clear hy hgy hry hLp hLp' hchk hwv hlen hn0 hRF hct hcs
            go_upto_region 25 with fail
            apply wp_region_lit
            go_wp2_with fail
            (with_reducible refine qb.mono ?_)
            rintro e w9 ⟨b9, csA, jcs, Al, cl, rfl, C9, hRl⟩
            have BO9 := BO8.below b9 BO8.lt
            have hb9 := bCall hb8 b9
            clear qb m0 m1 m2 m3 m4 m5 m6 m7 BO8 BG8 hb8 b9 BP
            dsimp only
            (refine ‹∀ (a : Act) (w : World), wpList _ _ _ _ a w → _› _ _ ?_)
            iterate 15 go_step
            refine wpList_storeG (by rfl) (by rfl) (by rfl) (by rfl) (store_newW (by rw [C9.size]; exact case_info') (by rw [C9.size]; rfl) C9.one) ?_
            simp only [Act.put]
            have BC := Blk.new w9 33 csA _ rfl
            have BO10 := BO9.alloc (.cells csA 33)
            have b910 := bAl (bRefl w9) (.cells csA 33)
            have C10 := C9.below b910
            have hRl10 := hRl.below b910
            have hb10 := bCall hb9 b910
            have hcb : W.heap.size < w9.heap.size := BO9.lt
            clear BO9 C9 hRl hb9 b910
            generalize w9.alloc (.cells csA 33) = w10 at *
            generalize w9.heap.size = cb at *
            have q := hP.of (c := bareCase ss FL pn wv rv.x rv.y rv.z) (C10.more (Nat.le_of_lt BC.lt)) (hG.below hb10) K1.out
            have LC := load_case BC C10.size
            go_upto_region 26 with fail
            apply wp_region_lit
            refine wpList_loadG (by rfl) (by rfl) (by rfl) LC ?_
            simp only [Act.put, List.setIfInBounds_toArray, List.set_cons_zero, List.set_cons_succ]
            clear LC
            go_wp2_with fail
            (with_reducible refine q.mono ?_)
            rintro e w11 ⟨rfl, b11⟩
            have bm := b11.mono (Nat.le_of_lt BC.lt)
            have BC11 := BC.below b11 BC.lt
            have BO11 := BO10.below b11 BO10.lt
            have C11 := C10.below bm
            have hRl11 := hRl10.below bm
            have hb11 := bCall hb10 b11
            clear q BC BO10 C10 hRl10 hb10 b11 bm
            have qr := el_read y w11
            rw [Hry.out, show y.err = 0 from if_pos Hgy.out] at qr
            unfold Ltr.agg Wd.agg at qr
            obtain ⟨bb, offb, hAl, hbl, o0, o1, o2, o3, o4, o5⟩ := Ltr_at hRl11 Hpn.out Hy.out
            subst hAl
            go_upto_region 29 with fail
            go_wp2_with fail
            (with_reducible refine qr.mono ?_)
            rintro e w12 ⟨rfl, b12⟩
            have bm := b12.mono (Nat.le_of_lt BC11.lt)
            have BC12 := BC11.below b12 BC11.lt
            have BO12 := BO11.below b12 BO11.lt
            have C12 := C11.below bm
            have hb12 := bCall hb11 b12
            clear qr BC11 BO11 C11 hRl11 hb11 b12 bm o0 o1 o2 o3 o4 o5
            go_upto_region 30 with fail
            have BW := Blk.new w12 28 #[.int .i64 wv.x, .int .i64 wv.y, .int .i64 wv.z] _ rfl
            have bal := bAl (bRefl w12) (.cells #[.int .i64 wv.x, .int .i64 wv.y, .int .i64 wv.z] 28)
            have BC13 := BC12.alloc (.cells #[.int .i64 wv.x, .int .i64 wv.y, .int .i64 wv.z] 28)
            have BO13 := BO12.alloc (.cells #[.int .i64 wv.x, .int .i64 wv.y, .int .i64 wv.z] 28)
            have C13 := C12.below (bal.mono (Nat.le_of_lt BC12.lt))
            have hb13 := bCall hb12 bal
            clear BC12 BO12 C12 hb12 bal
            generalize w12.alloc (.cells #[.int .i64 wv.x, .int .i64 wv.y, .int .i64 wv.z] 28) = w13 at *
            have x0 : w13.cell? ⟨w12.heap.size, 0, none⟩ = some (.int .i64 wv.x) := BW.cell 0
            have x1 : w13.cell? ⟨w12.heap.size, 1, none⟩ = some (.int .i64 wv.y) := BW.cell 1
            have x2 : w13.cell? ⟨w12.heap.size, 2, none⟩ = some (.int .i64 wv.z) := BW.cell 2
            have y0 := (hb13.cell (p := ⟨b, off + pn * 3, none⟩) hbb).trans c0
            have y1 := (hb13.cell (p := ⟨b, off + pn * 3 + 1, none⟩) hbb).trans c1
            have y2 := (hb13.cell (p := ⟨b, off + pn * 3 + 2, none⟩) hbb).trans c2
            have hq := run_neW wv wv
            rw [Wd.eqB_iff.2 rfl] at hq
            unfold Wd.agg at hq
            go_quiet (fail)
            have BC14 : Blk (w13.drewN nq) cb 33 csA := BC13
            have BO14 : Blk (w13.drewN nq) W.heap.size 28 #[.int .i64 o.x, .int .i64 o.y, .int .i64 o.z] := BO13
            have C14 := C13.below ((bDrN (bRefl w13) nq).mono (Nat.le_of_lt BC13.lt))
            have hb14 := bDrN hb13 nq
            clear x0 x1 x2 y0 y1 y2 hq BC13 BO13 C13 hb13 BW
            generalize w13.drewN nq = w14 at *
            have x0 : w14.cell? ⟨W.heap.size, 0, none⟩ = some (.int .i64 o.x) := BO14.cell 0
            have x1 : w14.cell? ⟨W.heap.size, 1, none⟩ = some (.int .i64 o.y) := BO14.cell 1
            have x2 : w14.cell? ⟨W.heap.size, 2, none⟩ = some (.int .i64 o.z) := BO14.cell 2
            have hs := C14.size
            go_upto_region 32 with fail
            apply wp_region_lit
            iterate 9 go_step
            refine wpList_storeG (q := .pointer (some ⟨cb, 7, none⟩)) (v := .agg #[.int .i64 o.x, .int .i64 o.y, .int .i64 o.z]) (by rfl) (by rfl) (by rfl) (by rfl) (store_at BC14 words_info (by rw [hs]; show 10 ≤ 15; omega) (by intro v hv; simp only [List.mem_cons, List.not_mem_nil, or_false] at hv; rcases hv with rfl | rfl | rfl <;> rfl)) ?_
            simp only [Act.put]
            rw [case_W hs]
            have BC15 := BC14.row (((csA.setIfInBounds 7 (.int .i64 o.x)).setIfInBounds 8 (.int .i64 o.y)).setIfInBounds 9 (.int .i64 o.z))
            have BO15 := BO14.farRow (g' := cb) (by omega) (((csA.setIfInBounds 7 (.int .i64 o.x)).setIfInBounds 8 (.int .i64 o.y)).setIfInBounds 9 (.int .i64 o.z))
            have C15 := C14.below (below_setRow (Below.refl cb w14) (Nat.le_refl cb) (((csA.setIfInBounds 7 (.int .i64 o.x)).setIfInBounds 8 (.int .i64 o.y)).setIfInBounds 9 (.int .i64 o.z)))
            have hb15 := below_setRow hb14 (show W.heap.size ≤ cb by omega) (((csA.setIfInBounds 7 (.int .i64 o.x)).setIfInBounds 8 (.int .i64 o.y)).setIfInBounds 9 (.int .i64 o.z))
            clear BC14 BO14 C14 hb14 x0 x1 x2
            generalize w14.setRow cb (((csA.setIfInBounds 7 (.int .i64 o.x)).setIfInBounds 8 (.int .i64 o.y)).setIfInBounds 9 (.int .i64 o.z)) = w15 at *
            have CR : CaseAt w15 cb (((csA.setIfInBounds 7 (.int .i64 o.x)).setIfInBounds 8 (.int .i64 o.y)).setIfInBounds 9 (.int .i64 o.z)) jcs (bareCase ss FL pn o rv.x rv.y rv.z) := C15.setW o.x o.y o.z
            have hs2 := CR.size
            have LC := load_case BC15 hs2
            have q := hP.of (CR.more (Nat.le_of_lt BC15.lt)) (hG.below hb15) K2.out
            go_upto_region 33 with fail
            apply wp_region_lit
            refine wpList_loadG (by rfl) (by rfl) (by rfl) LC ?_
            simp only [Act.put, List.setIfInBounds_toArray, List.set_cons_zero, List.set_cons_succ]
            clear LC CR
            have y0 := (hb15.cell (p := ⟨b, off + pn * 3, none⟩) hbb).trans c0
            have y1 := (hb15.cell (p := ⟨b, off + pn * 3 + 1, none⟩) hbb).trans c1
            have y2 := (hb15.cell (p := ⟨b, off + pn * 3 + 2, none⟩) hbb).trans c2
            have hq := run_eqW o wv
            unfold Wd.agg at hq
            have hw11 : IntKind.i64.wrap (rv.y.tmod 1073741789 + 1) = rv.y.tmod 1073741789 + 1 := by
              have := tmod_q rv.y
              rw [IntKind.wrap_i64]; omega
            cases hov : o.eqB wv
            all_goals
              rw [hov] at hq
              first
                | (have hwy := Kn.out hov; subst hwy)
                | (have hwy := Ky.out hov; subst hwy)
              clear hov
              go_wp2_with fail
              (with_reducible refine q.mono ?_)
              rintro e w16 ⟨rfl, b16⟩
              have bm := b16.mono (Nat.le_of_lt BC15.lt)
              have BC16 := BC15.below b16 BC15.lt
              have BO16 := BO15.below b16 BO15.lt
              have C16 := C15.below bm
              have hb16 := bCall hb15 b16
              have x0 : w16.cell? ⟨W.heap.size, 0, none⟩ = some (.int .i64 o.x) := BO16.cell 0
              have x1 : w16.cell? ⟨W.heap.size, 1, none⟩ = some (.int .i64 o.y) := BO16.cell 1
              have x2 : w16.cell? ⟨W.heap.size, 2, none⟩ = some (.int .i64 o.z) := BO16.cell 2
              replace y0 := (hb16.cell (p := ⟨b, off + pn * 3, none⟩) hbb).trans c0
              replace y1 := (hb16.cell (p := ⟨b, off + pn * 3 + 1, none⟩) hbb).trans c1
              replace y2 := (hb16.cell (p := ⟨b, off + pn * 3 + 2, none⟩) hbb).trans c2
              clear q BC15 BO15 C15 hb15 b16 bm
              go_upto_region 34 with fail
              go_quiet (fail)
              have BC17 : Blk (w16.drewN nq) cb 33 (((csA.setIfInBounds 7 (.int .i64 o.x)).setIfInBounds 8 (.int .i64 o.y)).setIfInBounds 9 (.int .i64 o.z)) := BC16
              have C17 := C16.below ((bDrN (bRefl w16) nq).mono (Nat.le_of_lt BC16.lt))
              have hb17 := bDrN hb16 nq
              clear x0 x1 x2 y0 y1 y2 hq BC16 BO16 C16 hb16
              generalize w16.drewN nq = w17 at *
              have y0 := (hb17.cell (p := ⟨b, off + pn * 3, none⟩) hbb).trans c0
              have y1 := (hb17.cell (p := ⟨b, off + pn * 3 + 1, none⟩) hbb).trans c1
              have y2 := (hb17.cell (p := ⟨b, off + pn * 3 + 2, none⟩) hbb).trans c2
              generalize hcB : (((csA.setIfInBounds 7 (.int .i64 o.x)).setIfInBounds 8 (.int .i64 o.y)).setIfInBounds 9 (.int .i64 o.z)) = csB at *
              go_upto_region 36 with fail
              apply wp_region_lit
              iterate 18 go_step
              refine wpList_storeG (q := .pointer (some ⟨cb, 7, none⟩)) (v := .agg #[.int .i64 wv.x, .int .i64 wv.y, .int .i64 wv.z]) (by rfl) (by rfl) (by rfl) (by rfl) (store_at BC17 words_info (by rw [hs2]; show 10 ≤ 15; omega) (by intro v hv; simp only [List.mem_cons, List.not_mem_nil, or_false] at hv; rcases hv with rfl | rfl | rfl <;> rfl)) ?_
              simp only [Act.put]
              rw [case_W hs2]
              have BC18 := BC17.row (((csB.setIfInBounds 7 (.int .i64 wv.x)).setIfInBounds 8 (.int .i64 wv.y)).setIfInBounds 9 (.int .i64 wv.z))
              have C18 := (CaseAt.setW (hcB ▸ (C17.setW o.x o.y o.z) : CaseAt w17 cb csB jcs (bareCase ss FL pn o rv.x rv.y rv.z)) wv.x wv.y wv.z).below (below_setRow (Below.refl cb w17) (Nat.le_refl cb) (((csB.setIfInBounds 7 (.int .i64 wv.x)).setIfInBounds 8 (.int .i64 wv.y)).setIfInBounds 9 (.int .i64 wv.z)))
              have hb18 := below_setRow hb17 (show W.heap.size ≤ cb by omega) (((csB.setIfInBounds 7 (.int .i64 wv.x)).setIfInBounds 8 (.int .i64 wv.y)).setIfInBounds 9 (.int .i64 wv.z))
              have hs3 := C18.size
              have h11 := C18.r1
              clear BC17 C17 hb17 y0 y1 y2
              generalize w17.setRow cb (((csB.setIfInBounds 7 (.int .i64 wv.x)).setIfInBounds 8 (.int .i64 wv.y)).setIfInBounds 9 (.int .i64 wv.z)) = w18 at *
              generalize (((csB.setIfInBounds 7 (.int .i64 wv.x)).setIfInBounds 8 (.int .i64 wv.y)).setIfInBounds 9 (.int .i64 wv.z)) = csC at *
              have x11 : w18.cell? ⟨cb, 11, none⟩ = some (.int .i64 rv.y) := (BC18.cell 11).trans h11
              have z11 := BC18.frozen 11
              go_upto_region 38 with fail
              have BC19 := BC18.set_ 11 (.int .i64 (rv.y.tmod 1073741789 + 1))
              have C19 : CaseAt _ cb (csC.setIfInBounds 11 (.int .i64 (rv.y.tmod 1073741789 + 1))) jcs (bareCase ss FL pn wv rv.x (rv.y.tmod 1073741789 + 1) rv.z) := (C18.below (Below.setCell (Below.refl cb w18) (p := ⟨cb, 11, none⟩) (Nat.le_refl cb) (.int .i64 (rv.y.tmod 1073741789 + 1)))).setR1 (rv.y.tmod 1073741789 + 1)
              have hb19 := bSet hb18 (p := ⟨cb, 11, none⟩) (by show W.heap.size ≤ cb; omega) (.int .i64 (rv.y.tmod 1073741789 + 1))
              clear BC18 C18 hb18 x11 z11
              generalize w18.setCell ⟨cb, 11, none⟩ (.int .i64 (rv.y.tmod 1073741789 + 1)) = w19 at *
              have LC := load_case BC19 C19.size
              have q := hP.of (C19.more (Nat.le_of_lt BC19.lt)) (hG.below hb19) K3.out
              apply wp_region_lit
              refine wpList_loadG (by rfl) (by rfl) (by rfl) LC ?_
              simp only [Act.put, List.setIfInBounds_toArray, List.set_cons_zero, List.set_cons_succ]
              clear LC
              go_wp2_with fail
              (with_reducible refine q.mono ?_)
              rintro e w20 ⟨rfl, b20⟩
              go_wp2_with fail
              go_ret
              exact ⟨rfl, bCall hb19 b20⟩
end Go.Proofs.YthgppaiiapkdjaaDoor
