/- timetable: the stops of a line, all its conditions; walked. -/
import Derived.Test.YtmbopkcmbiommaaGreatDoorRaf
import Derived.Deep.DeepCutAuto
import Derived.Deep.CutBlock
set_option maxRecDepth 1000000
set_option maxHeartbeats 16000000
namespace Go.Proofs.YtmbopkcmbiommaaGreatDoor
open Go Go.RowKit
def seenL (l : List Int) (m : Nat) : List Value := (List.range m).map (fun (i : Nat) => Value.bool (decide ((i : Int) ∈ l)))
theorem seenL_at {l : List Int} {m i : Nat} (h : i < m) : (seenL l m)[i]? = some (.bool (decide ((i : Int) ∈ l))) := by
  unfold seenL
  rw [List.getElem?_map, List.getElem?_range h]; rfl
theorem seenL_nil (m : Nat) : seenL [] m = List.replicate m (.bool false) := by
  unfold seenL
  apply List.ext_getElem
  · simp
  · intro i h1 h2; simp
theorem seenL_set {l : List Int} {m i : Nat} (h : i < m) : (seenL l m).set i (.bool true) = seenL (l ++ [(i : Int)]) m := by
  apply List.ext_getElem?
  intro j
  rw [List.getElem?_set]
  by_cases hj : j < m
  · rw [seenL_at hj, seenL_at hj]
    by_cases e : i = j
    · subst e
      rw [if_pos rfl, if_pos (by unfold seenL; simp; exact h)]
      simp
    · rw [if_neg e]
      congr 2
      rw [decide_eq_decide, List.mem_append, List.mem_singleton]
      constructor
      · exact .inl
      · rintro (h1 | h1)
        · exact h1
        · omega
  · have h1 : (seenL l m)[j]? = none := by rw [List.getElem?_eq_none_iff]; unfold seenL; simp; omega
    have h2 : (seenL (l ++ [(i : Int)]) m)[j]? = none := by rw [List.getElem?_eq_none_iff]; unfold seenL; simp; omega
    rw [h2, h1, if_neg (by omega)]
theorem made_bools (n : Nat) : madeCells (Value.bool false).cells (n * 1) = (seenL [] n).toArray := by
  rw [seenL_nil]
  apply Array.ext
  · rw [size_madeCells]; simp
  · intro i h1 h2
    simp only [madeCells, Array.getElem_map, Array.getElem_range, List.getElem_toArray, List.getElem_replicate]
    show (#[Value.bool false] : Array Value)[i % 1]! = _
    rw [Nat.mod_one]; rfl
theorem make_bools (n : Nat) (hn : n ≤ 100000) (w : World) : (Instr.makeSlice 193 (.int .i64 (n : Nat)) (.int .i64 (n : Nat))).run Tryz.prog w = .ok (.slice (some ⟨w.heap.size, 0, none⟩) n n) (w.alloc (.cells (seenL [] n).toArray 4)) := by
  have hinf : (Tryz.prog.info? 4).map (fun i => (i.zero, i.size, i.bytes)) = some (some (.bool false), 1, 1) := by kernel_rfl
  obtain ⟨i0, hi, hz0, hz1, hz2⟩ := info_parts hinf
  have := run_makeSlice (w := w) (P := Tryz.prog) 193 4 i0 (.bool false) Tryz.underlying193 hi hz0 .i64 .i64 (n : Int) (n : Int) (by omega) (Int.le_refl _) (by rw [hz1]; omega) (by rw [hz2]; omega) (by omega)
  rw [show ((n : Int)).toNat = n by omega, hz1, made_bools] at this
  exact this
theorem stops_no1 {n : Int} {l : List Int} {k : Nat} {o : Int} (h : l[k]? = some o) (hb : btw o 0 (n - 1) = false) : stopsB n l = false := by
  unfold stopsB
  rw [all_no (p := fun o => btw o 0 (n - 1)) h hb]; rfl
theorem stops_no2 {n : Int} {l : List Int} {k : Nat} {o : Int} (h : l[k]? = some o) (hm : o ∈ l.take k) : stopsB n l = false := by
  unfold stopsB
  rw [Bool.and_eq_false_iff]
  right
  apply decide_eq_false
  intro hd
  obtain ⟨i, hi, e⟩ := List.mem_take_iff_getElem.1 hm
  obtain ⟨hk, e2⟩ := List.getElem?_eq_some_iff.1 h
  exact List.pairwise_iff_getElem.1 hd i k (by omega) hk (by omega) (e.trans e2.symm)
theorem stops_yes {n : Int} {l : List Int} (h1 : ∀ y ∈ l, btw y 0 (n - 1) = true) (h2 : ∀ k o, l[k]? = some o → o ∉ l.take k) : stopsB n l = true := by
  unfold stopsB
  rw [Bool.and_eq_true, List.all_eq_true, decide_eq_true_iff]
  refine ⟨h1, List.pairwise_iff_getElem.2 (fun i j hi hj hij e => ?_)⟩
  exact h2 j _ (List.getElem?_eq_getElem hj) (List.mem_take_iff_getElem.2 ⟨i, by omega, e⟩)
theorem ln_stops (s : LS) (x : Lin) (m : Nat) (W : World) (hA : Rd W W.heap.size 1 s.a0 x.offs.length (ints x.offs)) (hn : x.offs.length ≤ 1000000) (hm : m ≤ 1000) :
    Calls Tryz.prog 136 #[.agg (L7 s x (m : Nat))] W (Ret (.bool (stopsB (m : Nat) x.offs)) W) := by
  have BL := Blk.new W 172 (L7 s x (m : Nat)) _ rfl
  have hb := bAl (bRefl W) (.cells (L7 s x (m : Nat)) 172)
  have hLc : Hid (∀ w, Blk w W.heap.size 172 (L7 s x (m : Nat)) → w.cell? ⟨W.heap.size, 0, none⟩ = some (.slice s.a0 x.offs.length s.c0) ∧ w.cell? ⟨W.heap.size, 6, none⟩ = some (.int .i64 (m : Nat))) := Lib.hid (fun w B => ⟨B.cell 0, B.cell 6⟩)
  have hA1 := (hA.below hb).more hb.size
  have hmk := make_bools m (by omega)
  obtain ⟨l, hl⟩ : ∃ l, x.offs = l := ⟨_, rfl⟩
  rw [hl] at hA1 hLc hn ⊢
  clear hA hl
  generalize L7 s x (m : Nat) = LC at *
  obtain ⟨v, hv⟩ : ∃ v, Hid (stopsB (m : Nat) l = v) := ⟨_, Lib.hid rfl⟩
  rw [hv.out]
  go_enter Tryz.func136, Tryz.ntmps136
  go_upto_region 1 with fail
  generalize W.alloc (.cells LC 172) = w1 at *
  obtain ⟨d0, d6⟩ := hLc.out w1 BL
  have BS := Blk.new w1 4 (seenL [] m).toArray _ rfl
  have BL2 := BL.alloc (.cells (seenL [] m).toArray 4)
  have hb2 := bAl hb (.cells (seenL [] m).toArray 4)
  have hA2 := (hA1.alloc (Nat.le_refl _) (.cells (seenL [] m).toArray 4))
  have hbl : W.heap.size < w1.heap.size := BL.lt
  have hmk1 := hmk w1
  clear hmk hA1
  go_upto_region 2 with fail
  clear hmk1 d0 d6
  generalize w1.alloc (.cells (seenL [] m).toArray 4) = w2 at *
  obtain ⟨sb, hsb⟩ : ∃ b, w1.heap.size = b := ⟨_, rfl⟩
  rw [hsb] at hA2 BS hbl ⊢
  clear hsb hb BL w1
  obtain ⟨d0, d6⟩ := hLc.out w2 BL2
  go_wp2_with fail
  clear d0 d6
  go_loopw [13] (fun i wr => ∃ k : Nat, k ≤ l.length ∧ i = .int .i64 k ∧ Below W.heap.size W wr ∧ Blk wr W.heap.size 172 LC ∧ Blk wr sb 4 (seenL (l.take k) m).toArray ∧ Rd wr sb 1 s.a0 l.length (ints l) ∧ Hid (∀ y ∈ l.take k, btw y 0 ((m : Int) - 1) = true) ∧ Hid (∀ j o, j < k → l[j]? = some o → o ∉ l.take j)) (fun i _ => l.length - (intOf i).toNat)
  case atStart => exact ⟨0, Nat.zero_le _, rfl, hb2, BL2, BS, hA2, Lib.hid (by simp), Lib.hid (fun j o h => absurd h (Nat.not_lt_zero _))⟩
  case round =>
    clear hb2 BL2 BS hA2
    obtain ⟨k, hkn, rfl, hb, BL, BS, hA, hp, hd⟩ := hrel
    by_cases hlt : k < l.length
    · obtain ⟨o, ho⟩ : ∃ o, Hid (l[k]? = some o) := ⟨_, Lib.hid (List.getElem?_eq_getElem hlt)⟩
      obtain ⟨b, off, hs0, hbb, c0⟩ := Int_at hA hlt ho.out
      have hLc2 := hLc.out
      rw [hs0] at hLc2 hA ⊢
      obtain ⟨d0, d6⟩ := hLc2 wr BL
      clear hLc2
      have i0 : (0 : Int) ≤ (k : Int) := by omega
      have i1 : (k : Int) < (l.length : Int) := by omega
      have hw : IntKind.i64.wrap ((m : Int) - 1) = (m : Int) - 1 := by rw [IntKind.wrap_i64]; omega
      have q := tt_between o 0 ((m : Int) - 1) wr
      cases hg : btw o 0 ((m : Int) - 1)
      · have hvf := Lib.hid (hv.out.symm.trans (stops_no1 ho.out hg))
        rw [hg] at q
        clear hg
        go_wp2_with fail
        (with_reducible refine q.mono ?_)
        rintro e w3 ⟨rfl, rfl⟩
        go_wp2_with fail
        go_ret
        exact ⟨ret_bool hvf.out.symm, hb⟩
      · have hr : 0 ≤ o ∧ o ≤ (m : Int) - 1 := by unfold btw at hg; simpa using hg
        obtain ⟨r, rfl⟩ : ∃ r : Nat, o = (r : Int) := ⟨o.toNat, by omega⟩
        have hrm : r < m := by omega
        have j0 : (0 : Int) ≤ (r : Int) := by omega
        have j1 : (r : Int) < (m : Int) := by omega
        have c1 : wr.cell? ⟨sb, r, none⟩ = some (.bool (decide ((r : Int) ∈ l.take k))) := (BS.cell r).trans (by rw [List.getElem?_toArray]; exact seenL_at hrm)
        have hp' := Lib.hid (all_on (p := fun y => btw y 0 ((m : Int) - 1)) hp.out ho.out hg)
        rw [hg] at q
        clear hg hr
        cases hm2 : decide ((r : Int) ∈ l.take k)
        · rw [hm2] at c1
          have hn2 := of_decide_eq_false hm2
          have f1 := BS.frozen r
          have hd' : Hid (∀ j o, j < k + 1 → l[j]? = some o → o ∉ l.take j) := Lib.hid (fun j z hj hz => by
            rcases Nat.lt_or_ge j k with h | h
            · exact hd.out j z h hz
            · obtain rfl : j = k := by omega
              rw [ho.out] at hz
              injection hz with hz
              rw [← hz]
              exact hn2)
          have BS2 := BS.set_ r (.bool true)
          rw [List.setIfInBounds_toArray, seenL_set hrm] at BS2
          have ht : l.take k ++ [(r : Int)] = l.take (k + 1) := by
            obtain ⟨h1, h2⟩ := List.getElem?_eq_some_iff.1 ho.out
            rw [List.take_succ_eq_append_getElem h1, h2]
          rw [ht] at BS2
          have BL2 := BL.far (p := ⟨sb, r, none⟩) (by show W.heap.size ≠ sb; omega) (.bool true)
          have hb2 := bSet hb (p := ⟨sb, r, none⟩) (by show W.heap.size ≤ sb; omega) (.bool true)
          have hA3 := hA.below ((Below.refl sb wr).setCell (p := ⟨sb, r, none⟩) (Nat.le_refl _) (.bool true))
          clear ht hm2 hn2 hA hb BL
          go_wp2_with fail
          (with_reducible refine q.mono ?_)
          rintro e w3 ⟨rfl, rfl⟩
          go_wp2_with fail
          exact ⟨⟨k + 1, by omega, by go_num, hb2, BL2, BS2, hA3, hp', hd'⟩, by simp [intOf]; omega⟩
        · rw [hm2] at c1
          have hvf := Lib.hid (hv.out.symm.trans (stops_no2 ho.out (of_decide_eq_true hm2)))
          clear hm2
          go_wp2_with fail
          (with_reducible refine q.mono ?_)
          rintro e w3 ⟨rfl, rfl⟩
          go_wp2_with fail
          go_ret
          exact ⟨ret_bool hvf.out.symm, hb⟩
    · have hvf : Hid (v = true) := Lib.hid (hv.out.symm.trans (stops_yes (by have := hp.out; rwa [List.take_of_length_le (by omega)] at this) (fun j o h => hd.out j o (by have := (List.getElem?_eq_some_iff.1 h).1; omega) h)))
      go_wp2_with fail
      go_ret
      exact ⟨ret_bool hvf.out.symm, hb⟩
def fnCl (v : Value) (l : List (FuncId × Bool)) : List Value := l.map (fun p => Value.func (.func p.1) #[v] #[])
theorem ln_right (s : LS) (x : Lin) (m : Nat) (W : World) (hA : LinAt W W.heap.size s x) (h1 : x.offs.length ≤ 1000000) (h2 : x.legs.length ≤ 1000000) (hm : m ≤ 1000) :
    Calls Tryz.prog 106 #[.agg (L7 s x (m : Nat))] W (Ret (.bool (x.right (m : Nat))) W) := by
  have hmf : ∀ (fn : Fn) (first cap : Array Value) (w : World), (Instr.makeFunc fn first cap).run Tryz.prog w = .ok (.func fn first cap) w := fun _ _ _ _ => rfl
  have BL := Blk.new W 172 (L7 s x (m : Nat)) _ rfl
  have hb := bAl (bRefl W) (.cells (L7 s x (m : Nat)) 172)
  obtain ⟨cl, hcl⟩ : ∃ cl : List (FuncId × Bool), Hid (cl = [(134, btw (x.offs.length : Int) 2 9 && decide (x.legs.length + 1 = x.offs.length)), (135, btw x.cls 1 255 && btw x.room 1 64), (136, stopsB (m : Nat) x.offs), (137, x.legs.all (fun n => btw n 1 100000))]) := ⟨_, Lib.hid rfl⟩
  have hall : Hid (x.right (m : Nat) = cl.all (fun p => p.2)) := Lib.hid (by
    rw [hcl.out]
    unfold Lin.right
    simp)
  have hq : Hid (∀ (k : Nat) p, cl[k]? = some p → ∀ w', Below W.heap.size W w' → Calls Tryz.prog p.1 #[.agg (L7 s x (m : Nat))] w' (Ret (.bool p.2) w')) := Lib.hid (fun k p hk w' b => by
    rw [hcl.out] at hk
    match k, hk with
    | 0, hk => injection hk with hk; subst hk; exact ln_sized s x m w' h1
    | 1, hk => injection hk with hk; subst hk; exact ln_numbers s x m w'
    | 2, hk => injection hk with hk; subst hk; exact ln_stops s x m w' ((hA.r0.below b).more b.size) h1 hm
    | 3, hk => injection hk with hk; subst hk; exact ln_legs s x m w' ((hA.r1.below b).more b.size) h2
    | k + 4, hk => simp at hk)
  have hen : Hid (∀ p ∈ cl, ∀ args w, (callFunc p.1 args).run Tryz.prog w = .ok (.enter p.1 args) w) := Lib.hid (fun p hp args w => by
    rw [hcl.out] at hp
    simp only [List.mem_cons, List.not_mem_nil, or_false] at hp
    rcases hp with rfl | rfl | rfl | rfl
    · exact enters_of Tryz.func134 (by kernel_rfl) rfl args w
    · exact enters_of Tryz.func135 (by kernel_rfl) rfl args w
    · exact enters_of Tryz.func136 (by kernel_rfl) rfl args w
    · exact enters_of Tryz.func137 (by kernel_rfl) rfl args w)
  have hcells : Hid (∀ v : Value, #[Value.func (.func 134) #[v] #[], .func (.func 135) #[v] #[], .func (.func 136) #[v] #[], .func (.func 137) #[v] #[]] = (fnCl v cl).toArray) := Lib.hid (fun v => by rw [hcl.out]; rfl)
  have hlen : cl.length = 4 := by rw [hcl.out]; rfl
  rw [hall.out]
  have LL := load_blk BL Tryz.underlying172 rfl (by kernel_rfl)
  generalize L7 s x (m : Nat) = LC at *
  clear hall hcl hA
  go_enter Tryz.func106, Tryz.ntmps106
  go_upto_region 1 with fail
  generalize W.alloc (.cells LC 172) = w1 at *
  apply wp_region_lit
  refine wpList_loadG (by rfl) (by rfl) (by rfl) LL ?_
  simp only [Act.put]
  iterate 3 go_step
  refine wpList_loadG (by rfl) (by rfl) (by rfl) LL ?_
  simp only [Act.put]
  iterate 3 go_step
  refine wpList_loadG (by rfl) (by rfl) (by rfl) LL ?_
  simp only [Act.put]
  iterate 3 go_step
  refine wpList_loadG (by rfl) (by rfl) (by rfl) LL ?_
  simp only [Act.put]
  go_wp2_with fail
  rw [hcells.out]
  have BF := Blk.new w1 36 (fnCl (.agg LC) cl).toArray _ rfl
  have hb2 := bAl hb (.cells (fnCl (.agg LC) cl).toArray 36)
  have hbl : W.heap.size < w1.heap.size := BL.lt
  clear hmf hcells LL BL hb
  generalize w1.heap.size = fb at *
  generalize w1.alloc (.cells (fnCl (.agg LC) cl).toArray 36) = w2 at *
  go_loopw [15] (fun i wr => ∃ k : Nat, k ≤ 4 ∧ i = .int .i64 k ∧ Below W.heap.size W wr ∧ Blk wr fb 36 (fnCl (.agg LC) cl).toArray ∧ Hid (∀ p ∈ cl.take k, (fun p : FuncId × Bool => p.2) p = true)) (fun i _ => 4 - (intOf i).toNat)
  case atStart => exact ⟨0, by omega, rfl, hb2, BF, Lib.hid (by simp)⟩
  case round =>
    clear hb2 BF
    obtain ⟨k, hkn, rfl, hb, BF, hp⟩ := hrel
    by_cases hlt : k < 4
    · obtain ⟨p, hpk⟩ : ∃ p, Hid (cl[k]? = some p) := ⟨_, Lib.hid (List.getElem?_eq_getElem (by omega))⟩
      have c0 : wr.cell? ⟨fb, k, none⟩ = some (.func (.func p.1) #[.agg LC] #[]) := (BF.cell k).trans (by rw [List.getElem?_toArray]; unfold fnCl; rw [List.getElem?_map, hpk.out]; rfl)
      have q := hq.out k p hpk.out wr hb
      have he := hen.out p (List.mem_of_getElem? hpk.out)
      have h1 := Lib.hid (fun h : p.2 = true => all_on (p := fun p : FuncId × Bool => p.2) hp.out hpk.out h)
      have h2 := Lib.hid (fun h : p.2 = false => all_no (p := fun p : FuncId × Bool => p.2) hpk.out h)
      clear hpk
      obtain ⟨f, ok⟩ := p
      dsimp only at c0 q he h1 h2
      have i0 : (0 : Int) ≤ (k : Int) := by omega
      have i1 : (k : Int) < 4 := by omega
      go_wp2_with fail
      (with_reducible refine q.mono ?_)
      rintro e w3 ⟨rfl, b3⟩
      clear q he c0
      replace BF := BF.below b3 BF.lt
      replace hb := bCall hb b3
      cases ok
      · have hv := Lib.hid (h2.out rfl)
        go_wp2_with fail
        go_ret
        exact ⟨ret_bool hv.out.symm, hb⟩
      · have hp2 := Lib.hid (h1.out rfl)
        go_wp2_with fail
        exact ⟨⟨k + 1, by omega, by go_num, hb, BF, hp2⟩, by simp [intOf]; omega⟩
    · have hv : Hid (cl.all (fun p => p.2) = true) := Lib.hid (List.all_eq_true.2 (by have := hp.out; rwa [List.take_of_length_le (by omega)] at this))
      go_wp2_with fail
      go_ret
      exact ⟨ret_bool hv.out.symm, hb⟩
theorem Cl_at {α : Type} {f : α → List Value} {w : World} {B sz n k : Nat} {A : Option Addr} {l : List α} {x : α} (hsz : ∀ y ∈ l, (f y).length = sz) (h : Rd w B sz A n (l.flatMap f)) (hn : k < n) (hx : l[k]? = some x) :
    ∃ b off, A = some ⟨b, off, none⟩ ∧ b < B ∧ ∀ j, j < sz → w.cell? ⟨b, off + k * sz + j, none⟩ = (f x)[j]? := by
  obtain ⟨b, off, hA, hb, hc⟩ := h.2 (by omega)
  refine ⟨b, off, hA, hb, fun j hj => ?_⟩
  have e := flat_mem l k j x (f := f) hsz hx hj
  obtain ⟨u, hu⟩ : ∃ u, (f x)[j]? = some u := ⟨_, List.getElem?_eq_getElem (by rw [hsz x (List.mem_of_getElem? hx)]; exact hj)⟩
  rw [hu] at e
  rw [Nat.add_assoc, hu]
  exact hc _ _ e
theorem rules_bad {l : List Rl} {k : Nat} {r : Rl} (h : l[k]? = some r) (hb : ruleB r = false) (off : List Gp) (h1 : l.length ≤ 16) (h2 : off.length ≤ 64) : calE l off = 190 := by
  unfold calE
  rw [if_neg (by omega), if_neg (by rw [all_no h hb]; simp)]
theorem rules_good {l : List Rl} (h : ∀ r ∈ l, ruleB r = true) (off : List Gp) (h1 : l.length ≤ 16) (h2 : off.length ≤ 64) : calE l off = if gapsB (-1) off = true then 0 else 190 := by
  unfold calE
  rw [if_neg (by omega), if_pos (List.all_eq_true.2 h)]
theorem ruleB_no {r : Rl} (h : ¬ (0 ≤ r.first ∧ r.first < r.until_ ∧ r.until_ ≤ 2097152 ∧ 1 ≤ r.every ∧ r.every ≤ 2097152)) : ruleB r = false := decide_eq_false h
theorem cal_check (A1 A2 : Option Addr) (c1 c2 : Nat) (rs : List Rl) (gs : List Gp) (W : World) (h1 : Rd W W.heap.size 3 A1 rs.length (rs.flatMap Rl.cl)) (h2 : Rd W W.heap.size 2 A2 gs.length (gs.flatMap Gp.cl)) (hn1 : rs.length ≤ 1000000) (hn2 : gs.length ≤ 1000000) :
    Calls Tryz.prog 107 #[.slice A1 rs.length c1, .slice A2 gs.length c2] W (Ret (.int .i64 (calE rs gs)) W) := by
  obtain ⟨v, hv⟩ : ∃ v, Hid (calE rs gs = v) := ⟨_, Lib.hid rfl⟩
  rw [hv.out]
  go_enter Tryz.func107, Tryz.ntmps107
  by_cases l1 : 16 < rs.length
  · have hv2 : Hid (v = 2) := Lib.hid (by rw [← hv.out]; unfold calE; rw [if_pos (.inl l1)])
    have e1 : (16 : Int) < (rs.length : Int) := by omega
    clear l1
    go_wp2_with fail
    go_ret
    exact ⟨ret_int hv2.out.symm, bRefl W⟩
  have e1 : ¬ (16 : Int) < (rs.length : Int) := by omega
  by_cases l2 : 64 < gs.length
  · have hv2 : Hid (v = 2) := Lib.hid (by rw [← hv.out]; unfold calE; rw [if_pos (.inr l2)])
    have e2 : (64 : Int) < (gs.length : Int) := by omega
    clear l2 l1
    go_wp2_with fail
    go_ret
    exact ⟨ret_int hv2.out.symm, bRefl W⟩
  have e2 : ¬ (64 : Int) < (gs.length : Int) := by omega
  have hno : Hid (∀ (k : Nat) r, rs[k]? = some r → ruleB r = false → v = 190) := Lib.hid (fun k r h hb => by rw [← hv.out]; exact rules_bad h hb gs (by omega) (by omega))
  have hyes : Hid ((∀ r ∈ rs, ruleB r = true) → v = if gapsB (-1) gs = true then 0 else 190) := Lib.hid (fun h => by rw [← hv.out]; exact rules_good h gs (by omega) (by omega))
  clear l1 l2 hv
  go_wp2_with fail
  go_loopw [20] (fun i wr => ∃ k : Nat, k ≤ rs.length ∧ i = .int .i64 k ∧ Below W.heap.size W wr ∧ Hid (∀ r ∈ rs.take k, ruleB r = true)) (fun i _ => rs.length - (intOf i).toNat)
  case atStart => exact ⟨0, Nat.zero_le _, rfl, bRefl W, Lib.hid (by simp)⟩
  case round =>
    obtain ⟨k, hkn, rfl, hb, hp⟩ := hrel
    by_cases hlt : k < rs.length
    · obtain ⟨r, hr⟩ : ∃ r, Hid (rs[k]? = some r) := ⟨_, Lib.hid (List.getElem?_eq_getElem hlt)⟩
      obtain ⟨b, off, rfl, hbb, hc⟩ := Cl_at (f := Rl.cl) (fun _ _ => rfl) (h1.below hb) hlt hr.out
      have c0 := hc 0 (by omega)
      have c1' := hc 1 (by omega)
      have c2' := hc 2 (by omega)
      simp only [Rl.cl, List.getElem?_cons_zero, List.getElem?_cons_succ, Nat.add_zero] at c0 c1' c2'
      have i0 : (0 : Int) ≤ (k : Int) := by omega
      have i1 : (k : Int) < (rs.length : Int) := by omega
      have hb2 := bAl hb (.cells #[.int .i64 r.first, .int .i64 r.until_, .int .i64 r.every] 59)
      clear hc
      have hcs : (r.first < 0 ∨ ¬ r.first < 0 ∧ r.until_ ≤ r.first) ∨ ((¬ r.first < 0 ∧ ¬ r.until_ ≤ r.first) ∧ 2097152 < r.until_ ∨ ((¬ r.first < 0 ∧ ¬ r.until_ ≤ r.first) ∧ ¬ 2097152 < r.until_) ∧ r.every < 1) ∨ (((¬ r.first < 0 ∧ ¬ r.until_ ≤ r.first) ∧ ¬ 2097152 < r.until_) ∧ ¬ r.every < 1) ∧ 2097152 < r.every ∨ (((¬ r.first < 0 ∧ ¬ r.until_ ≤ r.first) ∧ ¬ 2097152 < r.until_) ∧ ¬ r.every < 1) ∧ ¬ 2097152 < r.every := by omega
      rcases hcs with (a1 | ⟨a1, a2⟩) | (⟨⟨a1, a2⟩, a3⟩ | ⟨⟨⟨a1, a2⟩, a3⟩, a4⟩) | ⟨⟨⟨⟨a1, a2⟩, a3⟩, a4⟩, a5⟩ | ⟨⟨⟨⟨a1, a2⟩, a3⟩, a4⟩, a5⟩
      rotate_left 5
      · have hp' := Lib.hid (all_on hp.out hr.out (show ruleB r = true from decide_eq_true (by omega)))
        go_wp2_with fail
        exact ⟨⟨k + 1, by omega, by go_num, hb2, hp'⟩, by simp [intOf]; omega⟩
      all_goals
        focus
          have hv2 := Lib.hid (hno.out k r hr.out (ruleB_no (by omega)))
          go_wp2_with fail
          go_ret
          exact ⟨ret_int hv2.out.symm, hb2⟩
    · have hv3 := Lib.hid (hyes.out (by have := hp.out; rwa [List.take_of_length_le (by omega)] at this))
      clear hp hyes hno
      obtain ⟨w2, rfl⟩ : ∃ w, w = wr := ⟨_, rfl⟩
      go_wp2_with fail
      go_loopw [7, 52] (fun j i wr => ∃ (k : Nat) (b : Int), k ≤ gs.length ∧ i = .int .i64 k ∧ j = .int .i64 b ∧ Below W.heap.size W wr ∧ Hid (gapsB (-1) gs = gapsB b (gs.drop k))) (fun _ i _ => gs.length - (intOf i).toNat)
      case atStart => exact ⟨0, -1, Nat.zero_le _, rfl, rfl, hb, Lib.hid rfl⟩
      case round =>
        clear hb
        obtain ⟨k, b0, hkn, rfl, rfl, hb, hp⟩ := hrel
        by_cases hlt : k < gs.length
        · obtain ⟨r, hr⟩ : ∃ r, Hid (gs[k]? = some r) := ⟨_, Lib.hid (List.getElem?_eq_getElem hlt)⟩
          obtain ⟨b, off, rfl, hbb, hc⟩ := Cl_at (f := Gp.cl) (fun _ _ => rfl) (h2.below hb) hlt hr.out
          have c0 := hc 0 (by omega)
          have c1' := hc 1 (by omega)
          simp only [Gp.cl, List.getElem?_cons_zero, List.getElem?_cons_succ, Nat.add_zero] at c0 c1'
          have i0 : (0 : Int) ≤ (k : Int) := by omega
          have i1 : (k : Int) < (gs.length : Int) := by omega
          have hb2 := bAl hb (.cells #[.int .i64 r.from_, .int .i64 r.until_] 61)
          have hdr : Hid (gapsB (-1) gs = (decide (b0 < r.from_ ∧ r.from_ < r.until_ ∧ r.until_ ≤ 2097152) && gapsB r.until_ (gs.drop (k + 1)))) := Lib.hid (by
            obtain ⟨e1, e2⟩ := List.getElem?_eq_some_iff.1 hr.out
            rw [hp.out, List.drop_eq_getElem_cons e1, e2]; rfl)
          clear hc hp
          have hcs : (r.from_ ≤ b0 ∨ ¬ r.from_ ≤ b0 ∧ r.until_ ≤ r.from_) ∨ (¬ r.from_ ≤ b0 ∧ ¬ r.until_ ≤ r.from_) ∧ 2097152 < r.until_ ∨ (¬ r.from_ ≤ b0 ∧ ¬ r.until_ ≤ r.from_) ∧ ¬ 2097152 < r.until_ := by omega
          rcases hcs with (a1 | ⟨a1, a2⟩) | ⟨⟨a1, a2⟩, a3⟩ | ⟨⟨a1, a2⟩, a3⟩
          rotate_left 3
          · have hp' : Hid (gapsB (-1) gs = gapsB r.until_ (gs.drop (k + 1))) := Lib.hid (by rw [hdr.out, decide_eq_true (by omega), Bool.true_and])
            clear hdr
            go_wp2_with fail
            exact ⟨⟨k + 1, r.until_, by omega, by go_num, rfl, hb2, hp'⟩, by simp [intOf]; omega⟩
          all_goals
            focus
              have hv2 : Hid (v = 190) := Lib.hid (by rw [hv3.out, hdr.out, decide_eq_false (by omega)]; rfl)
              clear hdr
              go_wp2_with fail
              go_ret
              exact ⟨ret_int hv2.out.symm, hb2⟩
        · have hv2 : Hid (v = 0) := Lib.hid (by rw [hv3.out, hp.out, List.drop_of_length_le (by omega)]; rfl)
          clear hp
          go_wp2_with fail
          go_ret
          exact ⟨ret_int hv2.out.symm, hb⟩
end Go.Proofs.YtmbopkcmbiommaaGreatDoor
