/-
  paths.offices: what it yields.
-/
import Derived.Test.YtoeobcmmafncmaaDoorMbs
import Derived.Test.YtoeobcmmafncmaaDoorMbk
import Derived.Test.YtoeobcmmafncmaaDoorMab
namespace Go.Proofs.YtoeobcmmafncmaaDoor
open Go.RowKit
attribute [local go_sem] Oper.semAt_some

/-- The first k legs. -/
def upto (n k : Nat) : List (Fin n) := (List.finRange n).take k
theorem upto_zero (n : Nat) : upto n 0 = [] := by simp [upto]
theorem upto_succ {n k : Nat} (h : k < n) : upto n k ++ [⟨k, h⟩] = upto n (k + 1) := by
  unfold upto
  rw [List.take_succ_eq_append_getElem (by simpa using h)]
  simp
theorem upto_length {n k : Nat} (h : k ≤ n) : (upto n k).length = k := by
  unfold upto; rw [List.length_take, List.length_finRange]; omega

theorem foldl_put (o : Nat) : ∀ (l : List Value) (s : Nat) (init : Array Value) (i : Nat), o + s + l.length ≤ init.size →
    ((l.zipIdx s).foldl (fun cs x => cs.setIfInBounds (o + x.2) x.1) init)[i]? = if o + s ≤ i ∧ i < o + s + l.length then l[i - (o + s)]? else init[i]?
  | [], s, init, i, h => by
    rw [if_neg (by simp only [List.length_nil]; omega)]; rfl
  | v :: l, s, init, i, h => by
    rw [List.zipIdx_cons, List.foldl_cons, foldl_put o l (s + 1) _ i (by simp at h ⊢; omega)]
    simp only [List.length_cons] at h ⊢
    by_cases h1 : o + s = i
    · subst h1
      rw [if_neg (by omega), if_pos (by omega), Array.getElem?_setIfInBounds_self_of_lt (by omega)]
      simp
    · rw [Array.getElem?_setIfInBounds_ne h1]
      by_cases h2 : o + (s + 1) ≤ i ∧ i < o + (s + 1) + l.length
      · rw [if_pos h2, if_pos (by omega)]
        rw [show i - (o + s) = (i - (o + (s + 1))) + 1 by omega]
        rfl
      · rw [if_neg h2, if_neg (by omega)]
theorem wpListIn_load {F : Fence} {n : Nat} {P : Program} {ops : Array Oper} {rest : List Oper} {o : Oper} {a : Act} {w : World} {Q : Exit → Act → World → Prop} (hgd : o.guard = none) {ty : TypeId} {x : Operand} (ho : o.op = .load ty x) {q v : Value} (hx : a.eval x = q)
    (hl : (Instr.loadAt ty q).run P w = .ok v w) (h : wpListIn F n P ops Q rest (a.put o.dst v) w) : wpListIn F n P ops Q (o :: rest) a w :=
  wpListIn_plain hgd fun K hK => by
    refine ⟨fun f hf => (by unfold Oper.about at hf; rw [ho] at hf; cases hf), ?_⟩
    have e := exec_load ho hx hl
    have hs : o.semAt F.round a.eval = execOp a.eval o := by
      cases F.round with
      | none => rfl
      | some l => exact Oper.semAt_some _ _ _ (by rw [ho]; intro c h; cases h)
    rw [hs, e]
    exact hK _ _ h
theorem load_blk {w : World} {g : Nat} {t ty : TypeId} {cs : Array Value} {d : TypeDesc} (h : Blk w g t cs) (hu : Tryd.prog.underlying ty = some d) (hd : d.isRow = true) (hi : (Tryd.prog.info? ty).map (·.size) = some cs.size) :
    (Instr.loadAt ty (.pointer (some ⟨g, 0, none⟩))).run Tryd.prog w = .ok (.agg cs) w := by
  have := run_loadAt_mid (P := Tryd.prog) w g 0 ty cs.toList d (fun j v hj => by rw [Nat.zero_add, h.cell]; simpa using hj) hu hd (by rw [Array.length_toList]; exact hi)
  rwa [Array.toArray_toList] at this
theorem setRow_alloc_drew (w : World) (cur cs : Array Value) (t : TypeId) : (w.alloc (.cells cur t)).drew.setRow w.heap.size cs = (w.alloc (.cells cs t)).drew := by
  have := setRow_alloc w cur cs t
  show ((w.alloc (.cells cur t)).setRow w.heap.size cs).drew = _
  rw [this]
end Go.Proofs.YtoeobcmmafncmaaDoor

/-
  merkle: up; walked.
-/
namespace Go.Proofs.YtoeobcmmafncmaaDoor
open Go.RowKit

def zeroD : Value := .agg #[.int .u8 0, .int .u8 0, .int .u8 0, .int .u8 0, .int .u8 0, .int .u8 0, .int .u8 0, .int .u8 0, .int .u8 0, .int .u8 0, .int .u8 0, .int .u8 0, .int .u8 0, .int .u8 0, .int .u8 0, .int .u8 0, .int .u8 0, .int .u8 0, .int .u8 0, .int .u8 0, .int .u8 0, .int .u8 0, .int .u8 0, .int .u8 0, .int .u8 0, .int .u8 0, .int .u8 0, .int .u8 0, .int .u8 0, .int .u8 0, .int .u8 0, .int .u8 0]
theorem dig_info3 : (Tryd.prog.info? 30).map (fun i => (i.zero, i.size, i.bytes)) = some (some zeroD, 32, 32) := by kernel_rfl
theorem load_dig {w : World} {b o : Nat} {d : List Nat} (hd : d.length = 32) (hc : ∀ j v, (byts d)[j]? = some v → w.cell? ⟨b, o + j, none⟩ = some v) :
    (Instr.loadAt 30 (.pointer (some ⟨b, o, none⟩))).run Tryd.prog w = .ok (.agg (byts d).toArray) w :=
  run_loadAt_mid w b o 30 (byts d) _ (fun j v hj => hc j v hj) dig_under rfl (by rw [byts_length, hd]; exact dig_info)
theorem flat_digs : ∀ {l : List (List Nat)}, (∀ d ∈ l, dgOk d) → (l.flatMap byts).length = l.length * 32
  | [], _ => rfl
  | d :: l, h => by
    rw [List.flatMap_cons, List.length_append, byts_length, (h d (by simp)).1, flat_digs (fun x hx => h x (by simp [hx])), List.length_cons]; omega
theorem build_dig {d : List Nat} (h : d.length = 32) : List.foldl (fun (cs : Array Value) (x : Value × Nat) => cs.setIfInBounds x.snd x.fst) #[.int .u8 0, .int .u8 0, .int .u8 0, .int .u8 0, .int .u8 0, .int .u8 0, .int .u8 0, .int .u8 0, .int .u8 0, .int .u8 0, .int .u8 0, .int .u8 0, .int .u8 0, .int .u8 0, .int .u8 0, .int .u8 0, .int .u8 0, .int .u8 0, .int .u8 0, .int .u8 0, .int .u8 0, .int .u8 0, .int .u8 0, .int .u8 0, .int .u8 0, .int .u8 0, .int .u8 0, .int .u8 0, .int .u8 0, .int .u8 0, .int .u8 0, .int .u8 0] (byts d).zipIdx = (byts d).toArray := by
  have hl : (byts d).length = 32 := by rw [byts_length, h]
  apply Array.ext_getElem?
  intro i
  have e := foldl_put 0 (byts d) 0 #[.int .u8 0, .int .u8 0, .int .u8 0, .int .u8 0, .int .u8 0, .int .u8 0, .int .u8 0, .int .u8 0, .int .u8 0, .int .u8 0, .int .u8 0, .int .u8 0, .int .u8 0, .int .u8 0, .int .u8 0, .int .u8 0, .int .u8 0, .int .u8 0, .int .u8 0, .int .u8 0, .int .u8 0, .int .u8 0, .int .u8 0, .int .u8 0, .int .u8 0, .int .u8 0, .int .u8 0, .int .u8 0, .int .u8 0, .int .u8 0, .int .u8 0, .int .u8 0] i (by rw [hl]; decide)
  simp only [Nat.zero_add] at e
  rw [e, hl]
  by_cases hi : i < 32
  · rw [if_pos ⟨Nat.zero_le _, hi⟩]; simp
  · rw [if_neg (fun h => hi h.2), Array.getElem?_eq_none (by simp; omega), Array.getElem?_eq_none (by simp [hl]; omega)]
def rowLen : Value → Nat
  | .slice _ n _ => n
  | _ => 0
set_option maxRecDepth 100000 in
set_option maxHeartbeats 4000000 in
theorem mk_up (A : Option Addr) (c : Nat) (l : List (List Nat)) (W : World) (hA : Rd W W.heap.size 32 A l.length (l.flatMap byts)) (hok : ∀ d ∈ l, dgOk d) (hn : l.length ≤ 1000) (hc : l.length ≤ c) (hc2 : c ≤ 9223372036854775807) (hnil : A = none → l.length = 0 ∧ c = 0) (hG : ShaG W) :
    Calls Tryd.prog 82 #[.slice A l.length c] W (RetO 30 32 (upN l).length ((upN l).flatMap byts) W) := by
  go_enter Tryd.func82, Tryd.ntmps82
  go_wp2_with fail
  go_loopw [0, 2] (fun row nx wr => ∃ (D R : List (List Nat)) (A' : Option Addr) (c' m k : Nat) (v : Value), row = .slice A' m c' ∧ nx = v ∧ Hid (D ++ upN R = upN l ∧ (∀ d ∈ R, dgOk d) ∧ R.length = m ∧ D.length = k) ∧ m ≤ c' ∧ c' ≤ 9223372036854775807 ∧ (A' = none → m = 0 ∧ c' = 0) ∧ k + m ≤ 1000 ∧ Below W.heap.size W wr ∧ Rd W W.heap.size 32 A' m (R.flatMap byts) ∧ wr.ownsRow W.heap.size 30 32 v k (D.flatMap byts)) (fun row _ _ => rowLen row)
  case atStart => exact ⟨[], l, A, c, l.length, 0, _, rfl, rfl, Lib.hid ⟨rfl, hok, rfl, rfl⟩, hc, hc2, hnil, by omega, bRefl _, hA, World.ownsRow_nil _ _ _ _⟩
  case round =>
    clear hA hok hc hc2 hnil hn
    obtain ⟨D, R, A', c', m, k, v, rfl, rfl, hdr, hc, hc2, hnil, hsum, hb, hR, hown⟩ := hrel
    by_cases hlt : 1 < m
    · obtain ⟨x, y, R, rfl⟩ : ∃ x y R', R = x :: y :: R' := by
        match R, hdr.out.2.2.1 with
        | x :: y :: R', _ => exact ⟨x, y, R', rfl⟩
        | [x], h => simp at h; omega
        | [], h => simp at h; omega
      have hi0 : (0 : Int) < (m : Int) := by omega
      have hj0 : 0 < m := by omega
      have hi1 : (1 : Int) < (m : Int) := by omega
      obtain ⟨b, off, rfl, hbb, hcc⟩ := hR.2 (by omega)
      have hx : dgOk x := hdr.out.2.1 x (by simp)
      have hy : dgOk y := hdr.out.2.1 y (by simp)
      have hlx : (byts x).length = 32 := by rw [byts_length, hx.1]
      have hly : (byts y).length = 32 := by rw [byts_length, hy.1]
      have c1 : ∀ j u, (byts x)[j]? = some u → W.cell? ⟨b, off + j, none⟩ = some u := fun j u hu => hcc j u (by
        have hj : j < (byts x).length := (List.getElem?_eq_some_iff.1 hu).1
        rw [List.flatMap_cons, List.getElem?_append_left hj]; exact hu)
      have c2 : ∀ j u, (byts y)[j]? = some u → W.cell? ⟨b, off + 32 + j, none⟩ = some u := fun j u hu => by
        have hj : j < (byts y).length := (List.getElem?_eq_some_iff.1 hu).1
        have := hcc (32 + j) u (by rw [List.flatMap_cons, List.flatMap_cons, List.getElem?_append_right (by omega), hlx, Nat.add_sub_cancel_left, List.getElem?_append_left hj]; exact hu)
        rwa [← Nat.add_assoc] at this
      have KS : Hid (∀ w', Below wr.heap.size wr w' → (Instr.loadAt 30 (.pointer (some ⟨b, off, none⟩))).run Tryd.prog w' = .ok (.agg (byts x).toArray) w' ∧ (Instr.loadAt 30 (.pointer (some ⟨b, off + 32, none⟩))).run Tryd.prog w' = .ok (.agg (byts y).toArray) w') :=
        Lib.hid (fun w' h => ⟨load_dig hx.1 (fun j u hu => (hb.trans (h.mono hb.size)).cell (p := ⟨b, off + j, none⟩) hbb |>.trans (c1 j u hu)), load_dig hy.1 (fun j u hu => (hb.trans (h.mono hb.size)).cell (p := ⟨b, off + 32 + j, none⟩) hbb |>.trans (c2 j u hu))⟩)
      clear c1 c2 hcc hlx hly
      go_upto_region 2 with fail
      refine wp_region_schB (f := 7) KS [(0, 1), (1, 1), (2, 1), (3, 2), (4, 1), (5, 1), (6, 2), (7, 3), (8, 3), (9, 3), (10, 3), (11, 3)] ?_
      simp only [pickS, List.getElem?_cons_zero, List.getElem?_cons_succ]
      refine wpSched_t ?_
      refine wpSched_t ?_
      refine wpSched_t ?_
      refine wpSched_r (v := ?v1) (hv := ?h1) ?_; case h1 => (intro w hSw; (first | refine (exec_load rfl rfl hSw).trans ?_ | refine (exec_load rfl rfl hSw.1).trans ?_ | refine (exec_load rfl rfl hSw.2.1).trans ?_ | refine (exec_load rfl rfl hSw.2.2.1).trans ?_ | refine (exec_load rfl rfl hSw.2).trans ?_ | refine (exec_load rfl rfl hSw.2.2).trans ?_); with_reducible rfl)
      refine wpSched_t ?_
      refine wpSched_t ?_
      refine wpSched_r (v := ?v2) (hv := ?h2) ?_; case h2 => (intro w hSw; (first | refine (exec_load rfl rfl hSw).trans ?_ | refine (exec_load rfl rfl hSw.1).trans ?_ | refine (exec_load rfl rfl hSw.2.1).trans ?_ | refine (exec_load rfl rfl hSw.2.2.1).trans ?_ | refine (exec_load rfl rfl hSw.2).trans ?_ | refine (exec_load rfl rfl hSw.2.2).trans ?_); with_reducible rfl)
      refine wpSched_last ?_
      first | simp only [List.map_nil] | simp only [List.map_cons, List.map_nil]
      have q := mk_node x y hx hy wr.drew (hG.below (bDr hb))
      unfold dig at q
      clear KS
      generalize hX : shaN nodS ++ (x ++ y) = X at *
      have hXo : Hid (nodeN x y = shaN X) := by show _ = _; rw [← hX]; rfl
      have hok2 : okB X := by rw [← hX]; exact okB_app (okB_sha _) (okB_app hx.2 hy.2)
      clear hX hi0 hj0 hi1
      replace hown := hown.drew
      replace hb := bDr hb
      generalize wr.drew = w2 at *
      go_wp2_with fail
      (with_reducible refine q.mono ?_)
      rintro e w5 ⟨v5, rfl, b5, A5, c5, rfl, hR5, hc5, hc52, _⟩
      replace hown := ownsRow_keep hown b5
      replace hb := bCall hb b5
      clear q b5
      go_wp2_with fail
      with_reducible refine (sum_any A5 _ c5 X w5 hR5 hok2 hc5 hc52 (hG.below hb)).mono ?_
      rintro e w6 ⟨rfl, b6⟩
      replace hown := ownsRow_keep hown b6
      replace hb := bCall hb b6
      clear b6 hR5
      have hN : (shaN X).length = 32 := shaN_len X
      have hlN : (byts (shaN X)).length = 32 := by rw [byts_length, hN]
      have hs6 := hb.size
      have h63 : k + 1 ≤ maxLen := by unfold maxLen; omega
      have hby : (k + 1) * 32 ≤ 140737488355328 := by omega
      go_wp2_with (at_builtin; rw [build_dig hN]; refine wpList_append1G w6 (byts (shaN X)) (.tmp 6) (.tmp 15) 136 W.heap.size 30 zeroD 32 32 _ k (D.flatMap byts) (by rfl) (by rfl) Tryd.underlying136 dig_info3 rfl (by omega) (by rfl) hown (by rfl) hlN byts_oneCell h63 hby hs6 ?_; intro v' w' hown4 hg4)
      refine NoPanic.normal ?_
      go_wp2_with fail
      obtain ⟨h1, h2, h3, h4⟩ := hdr.out
      have hml : m = R.length + 2 := by rw [← h3]; simp
      refine ⟨⟨D ++ [nodeN x y], R, _, c' - 2, m - 2, k + 1, v', rfl, rfl, Lib.hid ⟨by rw [← h1, List.append_assoc]; rfl, fun d hd => h2 d (by simp [hd]), by omega, by rw [List.length_append, h4]; rfl⟩, by omega, by omega, ?_, by omega, hb.trans (hg4.below hown hs6), ?_, ?_⟩, ?_⟩
      · intro h; split at h <;> cases h
      · have hl2 : (byts x ++ byts y).length = 64 := by rw [List.length_append, byts_length, byts_length, hx.1, hy.1]
        have hdp : ((x :: y :: R).flatMap byts).drop 64 = R.flatMap byts := by
          rw [List.flatMap_cons, List.flatMap_cons, ← List.append_assoc, List.drop_append, hl2, List.drop_of_length_le (by rw [hl2]; exact Nat.le_refl _)]; simp
        split
        · obtain rfl : m = 2 := by omega
          have hR0 : R = [] := List.eq_nil_of_length_eq_zero (by omega)
          subst hR0
          exact ⟨rfl, fun h => absurd h (by omega)⟩
        · have := hR.cut 2 (by omega)
          rw [show 2 * 32 = 64 from rfl, hdp] at this
          exact this
      · rw [List.flatMap_append, ← show nodeN x y = shaN X from hXo.out] at *
        simpa using hown4
      · show m - 2 < m; omega
    · have hRo : Hid (upN R = R) := by
        show _ = _
        match R, hdr.out.2.2.1 with
        | [], _ => rfl
        | [x], _ => rfl
        | x :: y :: R', h => simp at h; omega
      have hs6 := hb.size
      have h63 : k + m ≤ maxLen := by unfold maxLen; omega
      have hby : (k + m) * 32 ≤ 140737488355328 := by omega
      have h1c : ∀ u ∈ R.flatMap byts, u.oneCell' = true := by
        intro u hu
        obtain ⟨d, _, hd⟩ := List.mem_flatMap.1 hu
        exact byts_oneCell u hd
      have hRw := hR.below hb
      go_wp2_with (at_builtin; refine wpList_appendG (.tmp 19) (.tmp 20) 136 W.heap.size 30 zeroD 32 32 _ k (D.flatMap byts) A' m c' W.heap.size (R.flatMap byts) (by rfl) (by rfl) Tryd.underlying136 dig_info3 rfl (by omega) (by rfl) hown (by rfl) hRw hnil h1c h63 hby hs6 ?_; intro v' w' hown4 hg4)
      go_ret
      obtain ⟨h1, h2, h3, h4⟩ := hdr.out
      rw [hRo.out] at h1
      refine ⟨_, rfl, hb.trans (hg4.below hown hs6), ?_⟩
      rw [← h1, List.length_append, h3, h4, List.flatMap_append]
      exact hown4
end Go.Proofs.YtoeobcmmafncmaaDoor
