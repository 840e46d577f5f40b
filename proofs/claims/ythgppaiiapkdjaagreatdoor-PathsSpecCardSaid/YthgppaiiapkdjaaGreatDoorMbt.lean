/-
  frankinglaw55.bare, walked: a case in which nobody works.
-/
import Derived.Test.YthgppaiiapkdjaaGreatDoorMbr
import Derived.Test.YthgppaiiapkdjaaGreatDoorMbs
import Derived.Test.YthgppaiiapkdjaaGreatDoorMaf
namespace Go.Proofs.YthgppaiiapkdjaaGreatDoor
open Go.RowKit

/-- A row stays when a row of another type grows. -/
theorem ownsRow_grew {w w' : World} {base base' : Nat} {e e' : TypeId} {size size' n n' : Nat} {v u u' : Value} {xs xs' : List Value} (h : w.ownsRow base e size v n xs) (hown : w.ownsRow base' e' size' u n' xs') (hg : Grew w w' u u') (hne : e ≠ e') : w'.ownsRow base e size v n xs := by
  obtain ⟨h1, h2⟩ := h
  refine ⟨h1, ?_⟩
  rcases h2 with h2 | ⟨g, cap, cur, hv, hgb, hh, r⟩
  · exact .inl h2
  · exact .inr ⟨g, cap, cur, hv, hgb, Grew.blk hg hown hh hne, r⟩
/-- A job of two slices. -/
def jobC (g1 g2 n : Nat) : Array Value := #[.slice (some ⟨g1, 0, none⟩) n n, .slice (some ⟨g2, 0, none⟩) n n, .slice none 0 0, .slice none 0 0, .slice none 0 0, .slice none 0 0, .slice none 0 0, .int .i64 0, .int .i64 0, .int .i64 0, .int .i64 0, .int .i64 0, .int .i64 0, .int .i64 0, .int .u8 0, .int .u8 0, .int .u8 0, .int .u8 0, .int .u8 0, .int .u8 0, .int .u8 0, .int .u8 0, .int .u8 0, .int .u8 0, .int .u8 0, .int .u8 0, .int .u8 0, .int .u8 0, .int .u8 0, .int .u8 0, .int .u8 0, .int .u8 0, .int .u8 0, .int .u8 0, .int .u8 0, .int .u8 0, .int .u8 0, .int .u8 0, .int .u8 0, .int .u8 0, .int .u8 0, .int .u8 0, .int .u8 0, .int .u8 0, .int .u8 0, .int .u8 0, .int .i64 0, .int .i64 0, .int .i64 0]
def caseC (A : Option Addr) (n cf : Nat) (kv jv : Value) (place x y z r0 r1 r2 : Int) : Array Value :=
  #[.int .i64 0, .int .i64 0, .int .i64 0, .slice A n cf, kv, jv, .int .i64 place, .int .i64 x, .int .i64 y, .int .i64 z, .int .i64 r0, .int .i64 r1, .int .i64 r2, .slice none 0 0, .int .i64 0]
def pathA (place x y z r0 r1 r2 : Int) : Value := .agg #[.int .i64 place, .int .i64 x, .int .i64 y, .int .i64 z, .int .i64 r0, .int .i64 r1, .int .i64 r2, .slice none 0 0]

theorem int_info : (Tryz.prog.info? 3).map (fun i => (i.zero, i.size, i.bytes)) = some (some (.int .i64 0), 1, 8) := by kernel_rfl
theorem job_info3 : (Tryz.prog.info? 60).map (fun i => (i.zero, i.size, i.bytes)) = some (some (.agg #[.slice none 0 0, .slice none 0 0, .slice none 0 0, .slice none 0 0, .slice none 0 0, .slice none 0 0, .slice none 0 0, .int .i64 0, .int .i64 0, .int .i64 0, .int .i64 0, .int .i64 0, .int .i64 0, .int .i64 0, .int .u8 0, .int .u8 0, .int .u8 0, .int .u8 0, .int .u8 0, .int .u8 0, .int .u8 0, .int .u8 0, .int .u8 0, .int .u8 0, .int .u8 0, .int .u8 0, .int .u8 0, .int .u8 0, .int .u8 0, .int .u8 0, .int .u8 0, .int .u8 0, .int .u8 0, .int .u8 0, .int .u8 0, .int .u8 0, .int .u8 0, .int .u8 0, .int .u8 0, .int .u8 0, .int .u8 0, .int .u8 0, .int .u8 0, .int .u8 0, .int .u8 0, .int .u8 0, .int .i64 0, .int .i64 0, .int .i64 0]), 49, 280) := by kernel_rfl
theorem jobC_one (g1 g2 n : Nat) : ∀ u ∈ (jobC g1 g2 n).toList, u.oneCell' = true := by
  intro u hu
  unfold jobC at hu
  simp only [List.mem_cons, List.not_mem_nil, or_false] at hu
  rcases hu with h | h | h | h | h | h | h | h | h | h | h | h | h | h | h | h | h | h | h | h | h | h | h | h | h | h | h | h | h | h | h | h | h | h | h | h | h | h | h | h | h | h | h | h | h | h | h | h | h <;> (subst h; rfl)
theorem ownsRow_setB {w : World} {base g i : Nat} {e t : TypeId} {size n : Nat} {v u : Value} {xs : List Value} {cs : Array Value} (h : w.ownsRow base e size v n xs) (hB : Blk w g t cs) (hne : t ≠ e) : (w.setCell ⟨g, i, none⟩ u).ownsRow base e size v n xs := by
  obtain ⟨h1, h2⟩ := h
  refine ⟨h1, ?_⟩
  rcases h2 with h2 | ⟨g', cap, cur, hv, hgb, hh, r⟩
  · exact .inl h2
  · refine .inr ⟨g', cap, cur, hv, hgb, (Below.heap_setCell _ _ _ _ ?_).trans hh, r⟩
    intro e2
    have e3 : g' = g := e2
    subst e3
    unfold Blk at hB
    rw [hB] at hh
    simp at hh
    exact hne hh.2
theorem Blk.farT {w : World} {g g2 i : Nat} {t t2 : TypeId} {cs cs2 : Array Value} (h : Blk w g t cs) (h2 : Blk w g2 t2 cs2) (hne : t ≠ t2) (u : Value) : Blk (w.setCell ⟨g2, i, none⟩ u) g t cs := h.far (by
  intro e
  have e3 : g = g2 := e
  subst e3
  unfold Blk at h h2
  rw [h] at h2
  simp at h2
  exact hne h2.2) u
def LastAt (w : World) (Af : Option Addr) (first : List Ltr) (Al : Option Addr) (l : List Ltr) : Prop := (Al = Af ∧ l = first) ∨ ∃ g, Al = some ⟨g, 0, none⟩ ∧ Blk w g 44 (l.flatMap Ltr.cl).toArray
theorem ltrs_len (l : List Ltr) : (l.flatMap Ltr.cl).length = l.length * 6 := by
  induction l with
  | nil => rfl
  | cons x l ih => rw [List.flatMap_cons, List.length_append, ih, Ltr.cl_length, List.length_cons, Nat.succ_mul]; omega
theorem LastAt.rd {W w : World} {Af Al : Option Addr} {first l : List Ltr} (h : LastAt w Af first Al l) (hl : l.length = first.length) (hF : Rd W W.heap.size 6 Af first.length (first.flatMap Ltr.cl)) (hb : Below W.heap.size W w) : Rd w w.heap.size 6 Al first.length (l.flatMap Ltr.cl) := by
  rcases h with ⟨rfl, rfl⟩ | ⟨g, rfl, hB⟩
  · exact (hF.below hb).more hb.size
  · refine ⟨by rw [ltrs_len, hl], fun _ => ⟨g, 0, rfl, hB.lt, fun j u hu => ?_⟩⟩
    rw [Nat.zero_add, hB.cell]
    simpa using hu
/-- The jobs that have been made. -/
def JobsB (w : World) (ss : List Int) (first : List Ltr) (jcs : List (Array Value)) : Prop := ∀ i jc, jcs[i]? = some jc → ∃ s g1 g2, ss[i]? = some s ∧ jc = jobC g1 g2 first.length ∧
  Blk w g1 44 ((bareX s (bareLast (ss.take i) first)).flatMap Ltr.cl).toArray ∧ Blk w g2 102 ((bareP s (bareLast (ss.take i) first)).flatMap Ltr.cl).toArray
theorem JobsB.below {w w' : World} {ss : List Int} {first : List Ltr} {jcs : List (Array Value)} (h : JobsB w ss first jcs) (b : Below w.heap.size w w') : JobsB w' ss first jcs := fun i jc hj => by
  obtain ⟨s, g1, g2, h1, h2, h3, h4⟩ := h i jc hj
  exact ⟨s, g1, g2, h1, h2, h3.below b h3.lt, h4.below b h4.lt⟩
theorem JobsB.map {w w' : World} {ss : List Int} {first : List Ltr} {jcs : List (Array Value)} (h : JobsB w ss first jcs) (b : ∀ g cs, Blk w g 44 cs → Blk w' g 44 cs) (b2 : ∀ g cs, Blk w g 102 cs → Blk w' g 102 cs) : JobsB w' ss first jcs := fun i jc hj => by
  obtain ⟨s, g1, g2, h1, h2, h3, h4⟩ := h i jc hj
  exact ⟨s, g1, g2, h1, h2, b _ _ h3, b2 _ _ h4⟩
theorem LastAt.map {w w' : World} {Af Al : Option Addr} {first l : List Ltr} (h : LastAt w Af first Al l) (b : ∀ g cs, Blk w g 44 cs → Blk w' g 44 cs) : LastAt w' Af first Al l := by
  rcases h with h | ⟨g, h1, h2⟩
  · exact .inl h
  · exact .inr ⟨g, h1, b _ _ h2⟩

theorem setRow_same {w : World} {g : Nat} {t : TypeId} {cs : Array Value} (h : Blk w g t cs) : w.setRow g cs = w := by
  unfold World.setRow
  have : (w.heap.modify g fun o => match o with | .cells _ t fr => .cells cs t fr | o => o) = w.heap := by
    apply Array.ext_getElem?
    intro i
    rw [Array.getElem?_modify]
    by_cases hi : g = i
    · subst hi
      unfold Blk at h
      rw [if_pos rfl, h]; rfl
    · rw [if_neg hi]
  exact congrArg (fun hp => ({ w with heap := hp } : World)) this
theorem ls_nil {w : World} {B : Nat} : LsAt w B (some (.slice none 0 0)) [] := ⟨none, 0, rfl, Rd.nil_, Nat.le_refl _, by omega⟩
theorem ds_nil {w : World} {B : Nat} : DsAt w B (some (.slice none 0 0)) [] := ⟨none, 0, rfl, Rd.nil_, Nat.le_refl _, by omega, fun d hd => by cases hd⟩
theorem ls_blk {w : World} {g : Nat} {t : TypeId} {l : List Ltr} {n : Nat} (h : Blk w g t (l.flatMap Ltr.cl).toArray) (hl : l.length = n) (hn : n ≤ 1000) : LsAt w w.heap.size (some (.slice (some ⟨g, 0, none⟩) n n)) l := by
  subst hl
  refine ⟨_, _, rfl, ⟨ltrs_len l, fun _ => ⟨g, 0, rfl, h.lt, fun j u hu => ?_⟩⟩, Nat.le_refl _, by omega⟩
  rw [Nat.zero_add, h.cell]
  simpa using hu
theorem bare_case {W w : World} {Af : Option Addr} {cf : Nat} {ss : List Int} {first : List Ltr} {kv jv : Value} {jcs : List (Array Value)} {place x y z r0 r1 r2 : Int} (hcf : first.length ≤ cf ∧ cf ≤ 9223372036854775807) (hc : chkL first = 0)
    (hF : Rd W W.heap.size 6 Af first.length (first.flatMap Ltr.cl)) (hb : Below W.heap.size W w) (hok : w.ownsRow W.heap.size 3 1 kv ss.length (ints (ss.map pubV))) (hoj : w.ownsRow W.heap.size 60 49 jv ss.length (jcs.flatMap Array.toList))
    (hjl : jcs.length = ss.length) (hJB : JobsB w ss first jcs) (hone : (caseC Af first.length cf kv jv place x y z r0 r1 r2).all (·.oneCell') = true) : CaseAt w w.heap.size (caseC Af first.length cf kv jv place x y z r0 r1 r2) jcs (bareCase ss first place ⟨x, y, z⟩ r0 r1 r2) := by
  obtain ⟨A1, d1, rfl, hR1⟩ := Rd.of_own hok
  obtain ⟨A2, d2, rfl, hR2⟩ := Rd.of_own hoj
  have h64 := (chkL_ok.1 hc).1
  have e1 : (bareCase ss first place ⟨x, y, z⟩ r0 r1 r2).keys.length = ss.length := by unfold bareCase; simp
  have e2 : (bareCase ss first place ⟨x, y, z⟩ r0 r1 r2).jobs.length = ss.length := by unfold bareCase; exact bareJobs_length _ _
  refine ⟨rfl, fun v hv => ?_, ⟨Af, cf, rfl, (hF.below hb).more hb.size, hcf.1, hcf.2⟩, ⟨A1, d1, by rw [e1]; rfl, by rw [e1]; exact hR1⟩, ⟨A2, d2, by rw [e2]; rfl, by rw [e2]; exact hR2⟩, by rw [e2]; exact hjl, ?_, rfl, rfl, rfl, rfl, rfl, rfl, rfl, ⟨none, 0, rfl, Rd.nil_⟩, fun s hs => by cases hs⟩
  · exact (Array.all_eq_true_iff_forall_mem.1 hone) v (by simpa using hv)
  · intro k jc hk
    obtain ⟨s, g1, g2, hs, rfl, B1, B2⟩ := hJB k jc hk
    rw [bareCase_job hs]
    have hlx : (bareX s (bareLast (ss.take k) first)).length = first.length := by unfold bareX; rw [List.length_map, bareLast_length]
    have hlp : (bareP s (bareLast (ss.take k) first)).length = first.length := by unfold bareP; rw [List.length_map, bareLast_length]
    refine ⟨rfl, jobC_one g1 g2 first.length, ⟨ls_blk B1 hlx (by omega), ls_blk B2 hlp (by omega), ls_nil, ls_nil, ls_nil, ds_nil, ds_nil⟩, ?_, by show 0 ≤ _; omega, by show 0 ≤ _; omega, by show 0 ≤ _; omega⟩
    show (bareX s (bareLast (ss.take k) first)).length ≤ _
    omega

set_option maxRecDepth 100000 in
set_option maxHeartbeats 8000000 in
theorem lw_bare (As Af : Option Addr) (cs cf : Nat) (ss : List Int) (first : List Ltr) (place x y z r0 r1 r2 : Int) (W : World) (hs : ∀ s ∈ ss, secB s = true) (hn : ss.length ≤ 9) (hc : chkL first = 0) (hcf : first.length ≤ cf ∧ cf ≤ 9223372036854775807)
    (hA : Rd W W.heap.size 1 As ss.length (ints ss)) (hF : Rd W W.heap.size 6 Af first.length (first.flatMap Ltr.cl)) (hG : ShaG W) :
    Calls Tryz.prog 10 #[.slice As ss.length cs, .slice Af first.length cf, pathA place x y z r0 r1 r2] W (fun r w' => Below W.heap.size W w' ∧
      ∃ csA jcs Al cl, r = .returned (.tuple #[.agg csA, .slice Al first.length cl, .bool true]) ∧ CaseAt w' w'.heap.size csA jcs (bareCase ss first place ⟨x, y, z⟩ r0 r1 r2) ∧ Rd w' w'.heap.size 6 Al first.length ((bareLast ss first).flatMap Ltr.cl)) := by
  unfold pathA
  go_enter Tryz.func10, Tryz.ntmps10
  go_upto_region 3 with fail
  have hb := bAl (bAl (bRefl W) (.cells #[.int .i64 place, .int .i64 x, .int .i64 y, .int .i64 z, .int .i64 r0, .int .i64 r1, .int .i64 r2, .slice none 0 0] 31)) (.cells (caseC Af first.length cf (.slice none 0 0) (.slice none 0 0) place x y z r0 r1 r2) 33)
  have BC := Blk.new (W.alloc (.cells #[.int .i64 place, .int .i64 x, .int .i64 y, .int .i64 z, .int .i64 r0, .int .i64 r1, .int .i64 r2, .slice none 0 0] 31)) 33 (caseC Af first.length cf (.slice none 0 0) (.slice none 0 0) place x y z r0 r1 r2) (W.heap.size + 1) (by simp)
  change Code.wp _ _ _ _ ((W.alloc (.cells #[.int .i64 place, .int .i64 x, .int .i64 y, .int .i64 z, .int .i64 r0, .int .i64 r1, .int .i64 r2, .slice none 0 0] 31)).alloc (.cells (caseC Af first.length cf (.slice none 0 0) (.slice none 0 0) place x y z r0 r1 r2) 33))
  generalize (W.alloc (.cells #[.int .i64 place, .int .i64 x, .int .i64 y, .int .i64 z, .int .i64 r0, .int .i64 r1, .int .i64 r2, .slice none 0 0] 31)).alloc (.cells (caseC Af first.length cf (.slice none 0 0) (.slice none 0 0) place x y z r0 r1 r2) 33) = w1 at *
  go_wp2_with fail
  go_loopw [9, 7] (fun i vl wr => ∃ (k : Nat) (Al : Option Addr) (cl : Nat) (kv jv : Value) (jcs : List (Array Value)), k ≤ ss.length ∧ i = .int .i64 k ∧ vl = .slice Al first.length cl ∧ Below W.heap.size W wr ∧ Blk wr (W.heap.size + 1) 33 (caseC Af first.length cf kv jv place x y z r0 r1 r2) ∧
    wr.ownsRow W.heap.size 3 1 kv k (ints ((ss.take k).map pubV)) ∧ wr.ownsRow W.heap.size 60 49 jv k (jcs.flatMap Array.toList) ∧ jcs.length = k ∧ JobsB wr ss first jcs ∧ LastAt wr Af first Al (bareLast (ss.take k) first)) (fun i _ _ => ss.length - (intOf i).toNat)
  case atStart => exact ⟨0, Af, cf, .slice none 0 0, .slice none 0 0, [], Nat.zero_le _, rfl, rfl, hb, BC, World.ownsRow_nil _ _ _ _, World.ownsRow_nil _ _ _ _, rfl, fun i jc h => by simp at h, .inl ⟨rfl, by rw [List.take_zero]; rfl⟩⟩
  case round =>
    clear BC hb
    obtain ⟨k, Al, cl, kv, jv, jcs, hkn, rfl, rfl, hb, BC, hok, hoj, hjl, hJB, hL⟩ := hrel
    by_cases hlt : k < ss.length
    · obtain ⟨s, hs0⟩ : ∃ s, Hid (ss[k]? = some s) := ⟨_, Lib.hid (List.getElem?_eq_getElem hlt)⟩
      have hsb : secB s = true := hs s (List.mem_of_getElem? hs0.out)
      obtain ⟨b, off, hAs, hbb, c0⟩ := Int_at (hA.below hb) hlt hs0.out
      subst hAs
      have q1 := el_public s wr
      have e1 : pubE s = 0 := by unfold pubE; rw [if_pos hsb]; unfold powE; rw [if_pos valid_four]
      rw [e1] at q1
      have hll : (bareLast (ss.take k) first).length = first.length := bareLast_length _ _
      have hch : Hid (bareE s (bareLast (ss.take k) first) = 0) := by show _ = _; unfold bareE; rw [if_pos hsb]; exact bareLast_chk hc
      clear e1
      go_wp2_with fail
      (with_reducible refine q1.mono ?_)
      rintro e w2 ⟨rfl, b2⟩
      clear q1
      have c2 := (b2.cell (p := ⟨b, off + k, none⟩) (by show b < _; have := hb.size; omega)).trans c0
      have hb2 := bCall hb b2
      have hL2 := hL.map (fun g cs h => h.below b2 h.lt)
      have q2 := equal_bare s Al first.length cl (bareLast (ss.take k) first) w2 (hL2.rd hll hF hb2) (by have := (chkL_ok.1 hc).1; omega) (hG.below hb2)
      go_wp2_with fail
      (with_reducible refine q2.mono ?_)
      rintro e w3 ⟨b3, -, hyes⟩
      obtain ⟨g1, g2, rfl, hg1, hg2, B1, B2⟩ := hyes hch.out
      clear q2 hyes
      go_upto_region 10 with fail
      have b23 := bCall b2 b3
      have hb3 := bCall hb b23
      have BC3 := BC.below b23 BC.lt
      have ok3 := ownsRow_keep hok b23
      have oj3 := ownsRow_keep hoj b23
      have JB3 := hJB.below b23
      have x4 : w3.cell? ⟨W.heap.size + 1, 4, none⟩ = some kv := BC3.cell 4
      clear hok hoj hJB BC hb2 hL2 c2 b2 b3 hL hb
      apply wp_region_lit
      iterate 12 go_step
      refine wpList_append1G w3 [.int .i64 (pubV s)] (.tmp 52) (.tmp 54) 25 W.heap.size 3 (.int .i64 0) 1 8 kv k _ rfl rfl Tryz.underlying25 int_info rfl (by omega) rfl ok3 rfl rfl (by intro u hu; simp only [List.mem_cons, List.not_mem_nil, or_false] at hu; subst hu; rfl) (by unfold maxLen; omega) (by omega) hb3.size (fun v4 w4 ok4 hg4 => ?_)
      obtain ⟨gk, ck, rfl⟩ := ownsRow_succ ok4
      have BC4 := hg4.blk ok3 BC3 (by decide)
      have B14 := hg4.blk ok3 B1 (by decide)
      have B24 := hg4.blk ok3 B2 (by decide)
      have oj4 := ownsRow_grew oj3 ok3 hg4 (by decide)
      have JB4 := JB3.map (fun g cs h => hg4.blk ok3 h (by decide)) (fun g cs h => hg4.blk ok3 h (by decide))
      have hb4 := hb3.trans (hg4.below ok3 hb3.size)
      have x4' : w4.cell? ⟨W.heap.size + 1, 4, none⟩ = some kv := BC4.cell 4
      have z4 := BC4.frozen 4
      clear BC3 B1 B2 oj3 JB3 x4
      go_upto_region 11 with fail
      have BC5 : Blk (w4.setCell ⟨W.heap.size + 1, 4, none⟩ (.slice (some ⟨gk, 0, none⟩) (k + 1) ck)) (W.heap.size + 1) 33 (caseC Af first.length cf (.slice (some ⟨gk, 0, none⟩) (k + 1) ck) jv place x y z r0 r1 r2) := BC4.set_ 4 (.slice (some ⟨gk, 0, none⟩) (k + 1) ck)
      have B15 := B14.farT (i := 4) BC4 (by decide) (.slice (some ⟨gk, 0, none⟩) (k + 1) ck)
      have B25 := B24.farT (i := 4) BC4 (by decide) (.slice (some ⟨gk, 0, none⟩) (k + 1) ck)
      have ok5 := ownsRow_setB (i := 4) (u := (.slice (some ⟨gk, 0, none⟩) (k + 1) ck)) ok4 BC4 (by decide)
      have oj5 := ownsRow_setB (i := 4) (u := (.slice (some ⟨gk, 0, none⟩) (k + 1) ck)) oj4 BC4 (by decide)
      have JB5 := JB4.map (fun g cs h => h.farT (i := 4) BC4 (by decide) (.slice (some ⟨gk, 0, none⟩) (k + 1) ck)) (fun g cs h => h.farT (i := 4) BC4 (by decide) (.slice (some ⟨gk, 0, none⟩) (k + 1) ck))
      have hb5 := bSet hb4 (p := ⟨W.heap.size + 1, 4, none⟩) (by show W.heap.size ≤ W.heap.size + 1; omega) (.slice (some ⟨gk, 0, none⟩) (k + 1) ck)
      clear BC4 B14 B24 ok4 oj4 JB4 hb4 x4' z4
      generalize w4.setCell ⟨W.heap.size + 1, 4, none⟩ (.slice (some ⟨gk, 0, none⟩) (k + 1) ck) = w5 at *
      have x5 : w5.cell? ⟨W.heap.size + 1, 5, none⟩ = some jv := BC5.cell 5
      apply wp_region_lit
      iterate 18 go_step
      change wpList _ _ _ _ _ (w5.alloc (.cells (jobC g1 g2 first.length).toList.toArray 60))
      refine wpList_append1G w5 (jobC g1 g2 first.length).toList (.tmp 58) (.tmp 62) 26 W.heap.size 60 (.agg #[.slice none 0 0, .slice none 0 0, .slice none 0 0, .slice none 0 0, .slice none 0 0, .slice none 0 0, .slice none 0 0, .int .i64 0, .int .i64 0, .int .i64 0, .int .i64 0, .int .i64 0, .int .i64 0, .int .i64 0, .int .u8 0, .int .u8 0, .int .u8 0, .int .u8 0, .int .u8 0, .int .u8 0, .int .u8 0, .int .u8 0, .int .u8 0, .int .u8 0, .int .u8 0, .int .u8 0, .int .u8 0, .int .u8 0, .int .u8 0, .int .u8 0, .int .u8 0, .int .u8 0, .int .u8 0, .int .u8 0, .int .u8 0, .int .u8 0, .int .u8 0, .int .u8 0, .int .u8 0, .int .u8 0, .int .u8 0, .int .u8 0, .int .u8 0, .int .u8 0, .int .u8 0, .int .u8 0, .int .i64 0, .int .i64 0, .int .i64 0]) 49 280 jv k _ rfl rfl Tryz.underlying26 job_info3 rfl (by omega) rfl oj5 rfl rfl (jobC_one g1 g2 first.length) (by unfold maxLen; omega) (by omega) hb5.size (fun v6 w6 oj6 hg6 => ?_)
      obtain ⟨gj, cj, rfl⟩ := ownsRow_succ oj6
      have BC6 := hg6.blk oj5 BC5 (by decide)
      have B16 := hg6.blk oj5 B15 (by decide)
      have B26 := hg6.blk oj5 B25 (by decide)
      have ok6 := ownsRow_grew ok5 oj5 hg6 (by decide)
      have JB6 := JB5.map (fun g cs h => hg6.blk oj5 h (by decide)) (fun g cs h => hg6.blk oj5 h (by decide))
      have hb6 := hb5.trans (hg6.below oj5 hb5.size)
      have x6 : w6.cell? ⟨W.heap.size + 1, 5, none⟩ = some jv := BC6.cell 5
      have z6 := BC6.frozen 5
      clear BC5 B15 B25 ok5 JB5 hb5 x5
      have BC7 : Blk (w6.setCell ⟨W.heap.size + 1, 5, none⟩ (.slice (some ⟨gj, 0, none⟩) (k + 1) cj)) (W.heap.size + 1) 33 (caseC Af first.length cf (.slice (some ⟨gk, 0, none⟩) (k + 1) ck) (.slice (some ⟨gj, 0, none⟩) (k + 1) cj) place x y z r0 r1 r2) := BC6.set_ 5 (.slice (some ⟨gj, 0, none⟩) (k + 1) cj)
      have B17 := B16.farT (i := 5) BC6 (by decide) (.slice (some ⟨gj, 0, none⟩) (k + 1) cj)
      have B27 := B26.farT (i := 5) BC6 (by decide) (.slice (some ⟨gj, 0, none⟩) (k + 1) cj)
      have ok7 := ownsRow_setB (i := 5) (u := (.slice (some ⟨gj, 0, none⟩) (k + 1) cj)) ok6 BC6 (by decide)
      have oj7 := ownsRow_setB (i := 5) (u := (.slice (some ⟨gj, 0, none⟩) (k + 1) cj)) oj6 BC6 (by decide)
      have JB7 := JB6.map (fun g cs h => h.farT (i := 5) BC6 (by decide) (.slice (some ⟨gj, 0, none⟩) (k + 1) cj)) (fun g cs h => h.farT (i := 5) BC6 (by decide) (.slice (some ⟨gj, 0, none⟩) (k + 1) cj))
      have hb7 := bSet hb6 (p := ⟨W.heap.size + 1, 5, none⟩) (by show W.heap.size ≤ W.heap.size + 1; omega) (.slice (some ⟨gj, 0, none⟩) (k + 1) cj)
      have ht : Hid (ss.take (k + 1) = ss.take k ++ [s]) := by
        obtain ⟨hk, rfl⟩ := List.getElem?_eq_some_iff.1 hs0.out
        exact List.take_succ_eq_append_getElem hk
      have hi : (k : Int) < (ss.length : Int) := by omega
      clear BC6 B16 B26 ok6 oj6 JB6 hb6
      go_upto_region 12 with fail
      clear x6 z6
      generalize w6.setCell ⟨W.heap.size + 1, 5, none⟩ (.slice (some ⟨gj, 0, none⟩) (k + 1) cj) = w7 at *
      go_wp2_with fail
      refine ⟨⟨k + 1, some ⟨g1, 0, none⟩, first.length, (.slice (some ⟨gk, 0, none⟩) (k + 1) ck), (.slice (some ⟨gj, 0, none⟩) (k + 1) cj), jcs ++ [jobC g1 g2 first.length], by omega, by go_num, rfl, hb7, BC7, ?_, ?_, by simp [hjl], ?_, ?_⟩, by simp [intOf]; omega⟩
      · rw [ht.out, List.map_append]
        show w7.ownsRow _ _ _ _ _ (ints (List.map pubV (ss.take k) ++ [pubV s]))
        rw [show ints (List.map pubV (ss.take k) ++ [pubV s]) = ints (List.map pubV (ss.take k)) ++ [.int .i64 (pubV s)] by simp [ints]]
        exact ok7
      · rw [List.flatMap_append]
        simpa using oj7
      · intro i jc hj
        by_cases hik : i < jcs.length
        · rw [List.getElem?_append_left hik] at hj
          exact JB7 i jc hj
        · rw [List.getElem?_append_right (by omega)] at hj
          obtain rfl : i = k := by have := (List.getElem?_eq_some_iff.1 hj).1; simp at this; omega
          rw [hjl, Nat.sub_self] at hj
          simp at hj
          exact ⟨s, g1, g2, hs0.out, hj.symm, B17, B27⟩
      · rw [ht.out, bareLast_snoc]
        exact .inr ⟨g1, rfl, B17⟩
    · obtain rfl : k = ss.length := by omega
      rw [List.take_length] at hok hL
      have hone : (caseC Af first.length cf kv jv place x y z r0 r1 r2).all (·.oneCell') = true := by
        obtain ⟨A1, d1, rfl, -⟩ := Rd.of_own hok
        obtain ⟨A2, d2, rfl, -⟩ := Rd.of_own hoj
        simp [caseC, Value.oneCell']
      go_upto_region 13 with fail
      apply wp_region_lit
      refine wpList_load_row rfl 33 (.tmp 6) rfl (W.heap.size + 1) rfl 33 (caseC Af first.length cf kv jv place x y z r0 r1 r2) (0, 0) _ BC Tryz.underlying33 rfl case_info ?_
      iterate 3 go_step
      refine wpList_store_row rfl 33 (.tmp 6) (.tmp 66) rfl (W.heap.size + 1) (caseC Af first.length cf kv jv place x y z r0 r1 r2) rfl rfl 33 _ BC case_info rfl hone ?_
      rw [setRow_same BC]
      go_wp2_with fail
      have m0 : wr.cell? ⟨W.heap.size + 1, 0, none⟩ = some (.int .i64 0) := BC.cell 0
      have m1 : wr.cell? ⟨W.heap.size + 1, 1, none⟩ = some (.int .i64 0) := BC.cell 1
      have m2 : wr.cell? ⟨W.heap.size + 1, 2, none⟩ = some (.int .i64 0) := BC.cell 2
      have m3 : wr.cell? ⟨W.heap.size + 1, 3, none⟩ = some (.slice Af first.length cf) := BC.cell 3
      have m4 : wr.cell? ⟨W.heap.size + 1, 4, none⟩ = some (kv) := BC.cell 4
      have m5 : wr.cell? ⟨W.heap.size + 1, 5, none⟩ = some (jv) := BC.cell 5
      have m6 : wr.cell? ⟨W.heap.size + 1, 6, none⟩ = some (.int .i64 place) := BC.cell 6
      have m7 : wr.cell? ⟨W.heap.size + 1, 7, none⟩ = some (.int .i64 x) := BC.cell 7
      have m8 : wr.cell? ⟨W.heap.size + 1, 8, none⟩ = some (.int .i64 y) := BC.cell 8
      have m9 : wr.cell? ⟨W.heap.size + 1, 9, none⟩ = some (.int .i64 z) := BC.cell 9
      have m10 : wr.cell? ⟨W.heap.size + 1, 10, none⟩ = some (.int .i64 r0) := BC.cell 10
      have m11 : wr.cell? ⟨W.heap.size + 1, 11, none⟩ = some (.int .i64 r1) := BC.cell 11
      have m12 : wr.cell? ⟨W.heap.size + 1, 12, none⟩ = some (.int .i64 r2) := BC.cell 12
      have m13 : wr.cell? ⟨W.heap.size + 1, 13, none⟩ = some (.slice none 0 0) := BC.cell 13
      have m14 : wr.cell? ⟨W.heap.size + 1, 14, none⟩ = some (.int .i64 0) := BC.cell 14
      refine bodyPost_ret (v := .tuple #[.agg (caseC Af first.length cf kv jv place x y z r0 r1 r2), .slice Al first.length cl, .bool true]) (by simp [results, Tryz.results10, go_sem, caseC, m0, m1, m2, m3, m4, m5, m6, m7, m8, m9, m10, m11, m12, m13, m14]) rfl ⟨hb, _, jcs, Al, cl, rfl, ?_, hL.rd (bareLast_length _ _) hF hb⟩
      exact bare_case hcf hc hF hb hok hoj hjl hJB hone
end Go.Proofs.YthgppaiiapkdjaaGreatDoor
