/- reading.add; walked. -/
import Derived.Test.YtmbopkcmbiommaaGreatDoorRbd
import Derived.Test.YtmbopkcmbiommaaGreatDoorRan
import Derived.RangeFuncWrites
set_option maxRecDepth 1000000
set_option maxHeartbeats 16000000
namespace Go.Proofs.YtmbopkcmbiommaaGreatDoor
open Go Go.RowKit
theorem rowN_is {t : By} {k : Nat} (h : rowN t = k) (h1 : 1 ≤ k) : t = wordN k ∧ k ≤ 10 := by
  have h10 : k ≤ 10 := by
    rw [← h]
    unfold rowN
    repeat' split
    all_goals omega
  have := rowN_beq (t := t) (k := k) ⟨h1, h10⟩
  rw [h, decide_eq_true rfl] at this
  exact ⟨eq_of_beq this, h10⟩
theorem rd_disp {t : By} {k : Nat} (hk : rowN t = k) (h1 : 1 ≤ k) : ∃ f : FuncId, readerS t = some (fnV f) ∧ (∀ args w, (callFunc f args).run Tryz.prog w = .ok (.enter f args) w) ∧
    ∀ (R base m : Nat) (o : Nat → Nat) (q : RS) (x : Wld) (last : ByteArray) (A : Option Addr) (c : Nat) (l : List ByteArray) (W : World), StAt W R base m o q x last → (k = 5 ∨ k = 6 → x.lines ≠ []) → Rd W W.heap.size 1 A l.length (strs l) → (∀ p : Addr, A = some p → p.block ≠ R) → l.length ≤ c → (∀ s ∈ l, s.size ≤ 1000000) → l.length ≤ 1000000 → m ≤ 1000000 → LibG base W →
      Calls Tryz.prog f #[.pointer (some ⟨R, 0, none⟩), .slice A l.length c] W (RdPost (readR x k (bys l)) o R base m last W) := by
  obtain ⟨ht, h10⟩ := rowN_is hk h1
  subst ht
  clear hk
  have hc : k = 1 ∨ k = 2 ∨ k = 3 ∨ k = 4 ∨ k = 5 ∨ k = 6 ∨ k = 7 ∨ k = 8 ∨ k = 9 ∨ k = 10 := by omega
  rcases hc with rfl | rfl | rfl | rfl | rfl | rfl | rfl | rfl | rfl | rfl
  · exact ⟨_, rfl, fun args w => enters_of Tryz.func90 (by kernel_rfl) rfl args w, fun R base m o q x last A c l W h _ hA hp hc hl hn hm hG => rd_world R base m o q x last A c l W h hA hp hc hl hG⟩
  · exact ⟨_, rfl, fun args w => enters_of Tryz.func92 (by kernel_rfl) rfl args w, fun R base m o q x last A c l W h _ hA hp hc hl hn hm hG => rd_class R base m o q x last A c l W h hA hl hn hm hG⟩
  · exact ⟨_, rfl, fun args w => enters_of Tryz.func93 (by kernel_rfl) rfl args w, fun R base m o q x last A c l W h _ hA hp hc hl hn hm hG => rd_tier R base m o q x last A c l W h hA hl hn hm hG⟩
  · exact ⟨_, rfl, fun args w => enters_of Tryz.func94 (by kernel_rfl) rfl args w, fun R base m o q x last A c l W h _ hA hp hc hl hn hm hG => rd_line R base m o q x last A c l W h hA hl hn hm hG⟩
  · exact ⟨_, rfl, fun args w => enters_of Tryz.func95 (by kernel_rfl) rfl args w, fun R base m o q x last A c l W h hne hA hp hc hl hn hm hG => rd_rule R base m o q x last A c l W h (hne (by simp)) hA hl hn hm hG⟩
  · exact ⟨_, rfl, fun args w => enters_of Tryz.func97 (by kernel_rfl) rfl args w, fun R base m o q x last A c l W h hne hA hp hc hl hn hm hG => rd_gap R base m o q x last A c l W h (hne (by simp)) hA hl hn hm hG⟩
  · exact ⟨_, rfl, fun args w => enters_of Tryz.func98 (by kernel_rfl) rfl args w, fun R base m o q x last A c l W h _ hA hp hc hl hn hm hG => rd_order R base m o q x last A c l W h hA hl hn hm hG⟩
  · exact ⟨_, rfl, fun args w => enters_of Tryz.func99 (by kernel_rfl) rfl args w, fun R base m o q x last A c l W h _ hA hp hc hl hn hm hG => rd_entry R base m o q x last A c l W h hA hl hn hm hG⟩
  · exact ⟨_, rfl, fun args w => enters_of Tryz.func100 (by kernel_rfl) rfl args w, fun R base m o q x last A c l W h _ hA hp hc hl hn hm hG => rd_secret R base m o q x last A c l W h hA hl hn hm hG⟩
  · exact ⟨_, rfl, fun args w => enters_of Tryz.func101 (by kernel_rfl) rfl args w, fun R base m o q x last A c l W h _ hA hp hc hl hn hm hG => rd_fault R base m o q x last A c l W h hA hl hn hm hG⟩
theorem schedN_anyO {P : Program} {ops : Array Oper} {Q : Exit → Act → World → Prop} {md : Region.Mode} {S : World → Prop} (hs : Region.noSelect ops = true) (hQ : ∀ o ∈ ops.toList, ∀ v c a w, Q (.panic c) (Act.put a o.dst v) w → Q (.panic c) a w) (g : Nat) : ∀ (s : List (Nat × Nat)) (listed : Array Bool) (a : Act) (w : World),
    schedOkN md ops s listed = true → S w → wpSchedN P md ops Q S g (listedBy s listed) (pickS s ops.toList) a w → wpAnyN P md ops Q S (s.length + g) listed a w
  | [], listed, a, w, _, _, h => by rw [List.length_nil, Nat.zero_add]; exact h
  | (k, 0) :: s, listed, a, w, hB, hS, h => by
    simp only [schedOkN, Bool.and_eq_true, decide_eq_true_eq] at hB
    obtain ⟨o, ho⟩ := ready_some (md := md) (ops := ops) (listed := listed) (k := k) (by rw [hB.1]; simp)
    have ho' : ops.toList[k]? = some o := by simpa using ho
    simp only [pickS, ho', wpSchedN] at h
    rw [List.length_cons, Nat.add_right_comm]
    refine ⟨fun h0 => (by rw [hB.1] at h0; cases h0), fun j hj => ?_⟩
    rw [hB.1] at hj
    obtain rfl : j = k := by simpa using hj
    have hw : wpOp P ops Q j (fun a' w' => S w' ∧ wpSchedN P md ops Q S g (listedBy s (listed.setIfInBounds j true)) (pickS s ops.toList) a' w') a w := by
      unfold wpOp
      simp only [ho]
      split at h
      · rename_i c; rw [if_pos c]; exact .inl h
      · rename_i c; rw [if_neg c]; exact h
    exact wpOp_mono (fun a' w' h' => ⟨h'.1, schedN_anyO hs hQ g s _ a' w' hB.2 h'.1 h'.2⟩) hw
  | (k, 1) :: s, listed, a, w, hB, hS, h => by
    simp only [schedOkN, Bool.and_eq_true] at hB
    obtain ⟨⟨⟨h1, h2⟩, h3⟩, h5⟩ := hB
    obtain ⟨o, ho⟩ := ready_some (md := md) (ops := ops) (listed := listed) (k := k) (by simpa using h1)
    have ho' : ops.toList[k]? = some o := by simpa using ho
    simp only [pickS, ho', wpSchedN] at h
    obtain ⟨v, hv, h⟩ := h
    rw [List.length_cons, Nat.add_right_comm]
    exact wpAnyN_first (T := fun _ => True) ho (Region.noSelect_spec hs) (fun c a w h => hQ o (List.mem_of_getElem? ho') _ c a w h) (fun _ _ => trivial) (s.length + g) listed a w (clo_spec h3) (Region.free_spec ho h2) (by simpa using h1) hv hS (schedN_anyO hs hQ g s _ _ w h5 hS h)
  | (k, n + 2) :: s, listed, a, w, hB, hS, h => by
    simp only [schedOkN, Bool.and_eq_true] at hB
    obtain ⟨⟨⟨h1, h2⟩, h3⟩, h5⟩ := hB
    obtain ⟨o, ho⟩ := ready_some (md := md) (ops := ops) (listed := listed) (k := k) (by simpa using h1)
    have ho' : ops.toList[k]? = some o := by simpa using ho
    simp only [pickS, ho', wpSchedN] at h
    obtain ⟨v, hv, h⟩ := h
    rw [List.length_cons, Nat.add_right_comm]
    exact wpAnyN_first (T := S) ho (Region.noSelect_spec hs) (fun c a w h => hQ o (List.mem_of_getElem? ho') _ c a w h) (fun _ h => h) (s.length + g) listed a w (clo_spec h3) (Region.free_spec ho h2) (by simpa using h1) hv hS (schedN_anyO hs hQ g s _ _ w h5 hS h)
def Q4 (Q : Exit → Act → World → Prop) (a0 : Act) (k : Nat) (p : Value) (F : List PanicEntry → World → Prop) : Exit → Act → World → Prop
  | .panic c, a, w => a.defers = a0.defers ∧ a.tmps[k]? = some p ∧ F c w
  | e, a, w => Q e a w
theorem wp_region_schNQ {P : Program} {Q : Exit → Act → World → Prop} {id : Nat} {l : List Oper} {a a0 : Act} {w : World} (S : World → Prop) (k : Nat) (p : Value) (F : List PanicEntry → World → Prop) (g : Nat) (s : List (Nat × Nat)) (hS : S w.drew) (h : wpSchedN P .any l.toArray (Q4 Q a0 k p F) S g (listedBy s (Array.replicate l.toArray.size false)) (pickS s l) a w.drew)
    (hmono : ∀ c a w, a.defers = a0.defers → a.tmps[k]? = some p → F c w → Q (.panic c) a w) (hk : l.all (fun o => decide (o.dst ≠ some k)) = true := by kernel_rfl)
    (hm : P.follows .mixedOrders = true := by kernel_rfl) (hB : (Region.noSelect l.toArray && (decide (s.length + g = l.toArray.size) && schedOkN .any l.toArray s (Array.replicate l.toArray.size false))) = true := by kernel_rfl) : (Code.region id l.toArray true).wp P Q a w := by
  simp only [Bool.and_eq_true, decide_eq_true_eq] at hB
  obtain ⟨h1, h2, h3⟩ := hB
  have hw : (Code.region id l.toArray true).wp P (Q4 Q a0 k p F) a w := by
    refine wp_region_any hm ?_
    have := wpAny_of_N _ _ _ _ (schedN_anyO (md := .any) (Q := Q4 Q a0 k p F) (ops := l.toArray) h1 (fun o ho v c a w h => by
      obtain ⟨e1, e2, e3⟩ := h
      have hd := of_decide_eq_true (List.all_eq_true.1 hk o (by simpa using ho))
      refine ⟨?_, ?_, e3⟩
      · cases hd2 : o.dst with
        | none => rw [hd2] at e1; exact e1
        | some d => rw [hd2] at e1; exact e1
      · cases hd2 : o.dst with
        | none => rw [hd2] at e2; exact e2
        | some d =>
          rw [hd2] at e2 hd
          have hne : d ≠ k := fun e => hd (by rw [e])
          have e4 : (a.tmps.setIfInBounds d v)[k]? = some p := e2
          rwa [Array.getElem?_setIfInBounds_ne hne] at e4) g s _ a w.drew h3 hS (by simpa using h))
    rw [h2] at this
    exact this
  refine wp_mono hw (fun e a w h => ?_)
  cases e with
  | panic c => exact hmono c a w h.1 h.2.1 h.2.2
  | _ => exact h
def Fit (x : Wld) (last : ByteArray) : Prop := (4 ≤ rowN last.data.toList ∧ rowN last.data.toList ≤ 6 → x.lines ≠ []) ∧ (last.size ≠ 0 → rowN last.data.toList ≠ 0)
def AddPost (ox : Option (Wld × Nat)) (o : Nat → Nat) (R base m : Nat) (w : World) (r : Ending) (w' : World) : Prop :=
  (match ox with | some p => r = .returned (.bool true) ∧ ∃ o' q' last', Agree w.heap.size o o' ∧ StAt w' R base (m + 1) o' q' p.1 last' ∧ rowN last'.data.toList = p.2 ∧ Fit p.1 last' | none => r = .returned (.bool false)) ∧ KeepZ o R w w' ∧ Below base w w'
theorem fld43 (s : WS) (x : Wld) (last : ByteArray) (h : x.seed.length = 32) : (s.cl x ++ [Value.string last]).toArray[43]? = some (.string last) := by
  rw [List.getElem?_toArray, ws_split, List.getElem?_append_right (by simp), List.getElem?_append_right (by simp [byts_length, h])]
  simp [byts_length, h]
theorem foll_in {k l : Nat} (h : followsN k l = true) (hk : k = 5 ∨ k = 6) : 4 ≤ l ∧ l ≤ 6 := by
  unfold followsN at h
  rcases hk with rfl | rfl
  · have := of_decide_eq_true h; omega
  · have := of_decide_eq_true h; omega
theorem splitC_len {c : UInt8} : ∀ {s : By}, (∀ p ∈ splitC c s, p.length ≤ s.length) ∧ (splitC c s).length ≤ s.length + 1
  | [] => ⟨fun p hp => by simp [splitC] at hp; subst hp; simp, by simp [splitC]⟩
  | y :: r => by
    obtain ⟨h1, h2⟩ := splitC_len (c := c) (s := r)
    unfold splitC
    split
    · refine ⟨fun p hp => ?_, by simp; omega⟩
      rcases List.mem_cons.1 hp with rfl | hp
      · simp
      · have := h1 p hp; simp; omega
    · cases hs : splitC c r with
      | nil => exact absurd hs (splitC_ne c r)
      | cons b q =>
        rw [hs] at h1 h2
        refine ⟨fun p hp => ?_, by simp at h2 ⊢; omega⟩
        simp only at hp
        rcases List.mem_cons.1 hp with rfl | hp
        · have := h1 b (List.mem_cons_self ..); simp; omega
        · have := h1 p (List.mem_cons_of_mem _ hp); simp; omega
theorem set43 (s : WS) (x : Wld) (last l' : ByteArray) (h : x.seed.length = 32) : (s.cl x ++ [Value.string last]).toArray.setIfInBounds 43 (.string l') = (s.cl x ++ [Value.string l']).toArray := by
  rw [List.setIfInBounds_toArray]
  refine congrArg List.toArray ?_
  rw [ws_split, ws_split, List.set_append_right _ _ (by simp), List.set_append_right _ _ (by simp [byts_length, h])]
  simp [byts_length, h]
theorem StAt.setLast {w : World} {R base m : Nat} {o : Nat → Nat} {q : RS} {x : Wld} {last : ByteArray} (h : StAt w R base m o q x last) (l' : ByteArray) : StAt (w.setCell ⟨R, 43, none⟩ (.string l')) R base m o q x l' :=
  ⟨by rw [← set43 q.ws x last l' h.sd]; exact h.blk.set_ 43 _, h.oR, h.bR, h.sd, h.so, h.ra.keep (KeepT.of_set h.oR 43 _) rfl (fun _ _ => rfl) (Nat.le_refl m)⟩
theorem StAt.beside {w : World} {R base m g i : Nat} {o : Nat → Nat} {q : RS} {x : Wld} {last : ByteArray} (h : StAt w R base m o q x last) (hg : o g = 9) (hne : R ≠ g) (v : Value) : StAt (w.setCell ⟨g, i, none⟩ v) R base m o q x last :=
  ⟨h.blk.far (p := ⟨g, i, none⟩) hne v, h.oR, h.bR, h.sd, h.so, h.ra.keep (KeepT.of_set hg i v) rfl (fun _ _ => rfl) (Nat.le_refl m)⟩
theorem lines_addR {x : Wld} {k : Nat} {l : List Int} (h : x.lines ≠ []) : (addR x (k, l)).lines ≠ [] := by
  have hl : ∀ f, lastL f x.lines ≠ [] := fun f => by
    unfold lastL
    cases hr : x.lines.reverse with
    | nil => exact absurd (List.reverse_eq_nil_iff.1 hr) h
    | cons a b => simp
  unfold addR
  simp only
  repeat' split
  all_goals first | exact h | exact hl _ | simp
theorem fit_step {x x' : Wld} {k l : Nat} {r : List By} (hk : 1 ≤ k) (hr : readR x k r = some x') (hfo : followsN k l = true) (hx : 4 ≤ l ∧ l ≤ 6 → x.lines ≠ []) : 4 ≤ k ∧ k ≤ 6 → x'.lines ≠ [] := by
  intro h
  unfold readR at hr
  rw [if_neg (by omega)] at hr
  cases hn : numsO r with
  | none => rw [hn] at hr; cases hr
  | some ns =>
    rw [hn] at hr
    simp only at hr
    split at hr
    · injection hr with hr
      subst hr
      by_cases h4 : k = 4
      · subst h4
        simp [addR]
      · exact lines_addR (hx (foll_in hfo (by omega)))
    · cases hr
theorem step_no {x : Wld} {k : Nat} {t : By} (h : endsB t = false) : stepW (x, k) t = none := by
  unfold stepW
  rw [cutNl_eq, h]
  rfl
theorem step_yes {x : Wld} {k : Nat} {t s0 : By} {r : List By} (h : endsB t = true) (hl : s0 :: r = splitC 32 (cutA t)) : stepW (x, k) t = if followsN (rowN s0) k = true then (readR x (rowN s0) r).map (fun w => (w, rowN s0)) else none := by
  unfold stepW
  rw [cutNl_eq, h]
  simp only [if_true, ← hl]
theorem foll_pos {k l : Nat} (h : followsN k l = true) : 1 ≤ k := by
  unfold followsN at h
  split at h
  · omega
  · split at h
    · omega
    · split at h
      · omega
      · split at h
        · omega
        · have := of_decide_eq_true h
          omega
theorem AddPost.no {ox : Option (Wld × Nat)} {o : Nat → Nat} {R base m : Nat} {w w' : World} (h : ox = none) (kz : KeepZ o R w w') (b : Below base w w') : AddPost ox o R base m w (.returned (.bool false)) w' := by rw [h]; exact ⟨rfl, kz, b⟩
theorem keepZ_far {o : Nat → Nat} {R g i : Nat} {w w1 : World} {v : Value} (h : KeepZ o R w w1) (hg : w.heap.size ≤ g) : KeepZ o R w (w1.setCell ⟨g, i, none⟩ v) := ⟨fun g' hl hR h0 => by
  rw [Below.heap_setCell _ _ _ _ (fun e => by have e2 : g' = g := e; omega)]
  exact h.1 g' hl hR h0, h.2.trans (KeepsOthers.setCell _ _ _)⟩
theorem keepZ_al {o : Nat → Nat} {R : Nat} {w w1 : World} {x : Obj} (h : KeepZ o R w w1) (hs : w.heap.size ≤ w1.heap.size) : KeepZ o R w (w1.alloc x) := ⟨fun g' hl hR h0 => (Below.heap_alloc w1 x g' (Nat.lt_of_lt_of_le hl hs)).trans (h.1 g' hl hR h0), h.2.trans (KeepsOthers.alloc _ _)⟩
theorem keepZ_b {o : Nat → Nat} {R : Nat} {w w1 : World} (b : Below w.heap.size w w1) : KeepZ o R w w1 := ⟨fun g' hl _ _ => b.block g' hl, others_below b⟩
theorem rep_add (R base m : Nat) (o : Nat → Nat) (q : RS) (x : Wld) (last s : ByteArray) (W : World) (h : StAt W R base m o q x last) (hf : Fit x last) (hs : s.size ≤ 1000000) (hm : m ≤ 1000000) (hG : LibG base W) :
    Calls Tryz.prog 28 #[.pointer (some ⟨R, 0, none⟩), .string s] W (AddPost (stepW (x, rowN last.data.toList) s.data.toList) o R base m W) := by
  have hbs : base ≤ W.heap.size := Nat.le_trans h.bR (Nat.le_of_lt h.blk.lt)
  have q1 : Hid (∀ w, Calls Tryz.prog 53 #[.string s, .string ⟨#[10]⟩] w (Same (.tuple #[.string ⟨(cutA s.data.toList).toArray⟩, .bool (endsB s.data.toList)]) w)) := Lib.hid (fun w => cut_suffix s w hs)
  obtain ⟨a, ha⟩ : ∃ a : ByteArray, Hid (a = ⟨(cutA s.data.toList).toArray⟩) := ⟨_, Lib.hid rfl⟩
  rw [← ha.out] at q1
  have has : a.size ≤ 1000000 := by
    rw [ha.out]
    show (cutA s.data.toList).toArray.size ≤ _
    have h2 : s.data.toList.length = s.size := by rw [Array.length_toList]; rfl
    rw [List.size_toArray]
    unfold cutA
    split
    · rw [List.length_dropLast]; omega
    · omega
  have q2 : Hid (∀ w, Below W.heap.size W w → Calls Tryz.prog 54 #[.string a, .string ⟨#[32]⟩] w (fun r w' => ∃ l : List ByteArray, r = .returned (.slice (some ⟨w.heap.size, 0, none⟩) l.length l.length) ∧ w' = w.alloc (.cells (strs l).toArray 9) ∧ bys l = splitC 32 a.data.toList)) := Lib.hid (fun w b => split_sp base a w has (hG.later hbs b))
  obtain ⟨e, he⟩ : ∃ e, Hid (endsB s.data.toList = e) := ⟨_, Lib.hid rfl⟩
  rw [he.out] at q1
  obtain ⟨ox, hox⟩ : ∃ ox, Hid (stepW (x, rowN last.data.toList) s.data.toList = ox) := ⟨_, Lib.hid rfl⟩
  rw [hox.out]
  have B4 := Blk.new W 4 #[.bool false] W.heap.size rfl
  have b4 := bAl (bRefl W) (.cells #[.bool false] 4)
  go_enter_defers Tryz.func28, Tryz.ntmps28
  go_upto_region 4 with (first | (go_at_call 53; (with_reducible refine (q1.out _).mono ?_); rintro r w1 ⟨rfl, rfl⟩) | (go_at_call 54; (with_reducible refine (q2.out _ b4).mono ?_); rintro r w2 ⟨l, rfl, rfl, hl⟩))
  have hne : l ≠ [] := fun h0 => by rw [h0] at hl; exact splitC_ne 32 _ hl.symm
  obtain ⟨s0, rest, rfl⟩ : ∃ s0 rest, l = s0 :: rest := List.exists_cons_of_ne_nil hne
  obtain ⟨lb, hlb⟩ : ∃ lb, lb = W.heap.size + 1 := ⟨_, rfl⟩
  have BL : Blk ((W.alloc (.cells #[.bool false] 4)).alloc (.cells (strs (s0 :: rest)).toArray 9)) lb 9 (strs (s0 :: rest)).toArray := Blk.new _ _ _ _ (by rw [hlb]; simp)
  have b5 := bAl b4 (.cells (strs (s0 :: rest)).toArray 9)
  have B5 := B4.alloc (.cells (strs (s0 :: rest)).toArray 9)
  rw [← hlb]
  obtain ⟨w2, hw2⟩ : ∃ w2, w2 = (W.alloc (.cells #[.bool false] 4)).alloc (.cells (strs (s0 :: rest)).toArray 9) := ⟨_, rfl⟩
  rw [← hw2] at BL b5 B5 ⊢
  obtain ⟨n, hn⟩ : ∃ n, n = (s0 :: rest).length := ⟨_, rfl⟩
  rw [← hn]
  have hn1 : 0 < n := by rw [hn]; simp
  have hlc := Lib.hid hl
  have hnn := Lib.hid hn
  have hlb2 := Lib.hid hlb
  clear q1 q2 b4 B4 hw2 hl hn hne hlb
  have c0 : w2.cell? ⟨lb, 0, none⟩ = some (.string s0) := by rw [BL.cell, List.getElem?_toArray]; rfl
  have hres : Hid (∀ w, Blk w W.heap.size 4 #[.bool false] → ((w.alloc (.cells #[] 151)).setCell ⟨W.heap.size, 0, none⟩ (.bool false)).cell? ⟨W.heap.size, 0, none⟩ = some (.bool false)) := Lib.hid (fun w B => World.cell?_setCell_same _ _ _ ((B.alloc _).cell 0))
  cases e with
  | false =>
    have ho := Lib.hid (hox.out.symm.trans (step_no he.out))
    go_wp2_with (go_at_call 55; (with_reducible refine (want_no _).mono ?_); rintro e w3 ⟨h9, rfl⟩; unfold PanW at h9; subst h9)
    have hr2 := hres.out _ B5
    refine rdoor_panic _ false _ (.bool false) B5 (by simp [results, Tryz.results28, go_sem, hr2]) (AddPost.no ho.out (keepZ_far (keepZ_al (keepZ_b b5) b5.size) (Nat.le_refl _)) ?_)
    exact ((b5.mono hbs).alloc (Nat.le_trans hbs b5.size) _).setCell (p := ⟨W.heap.size, 0, none⟩) hbs _
  | true =>
    have ho := Lib.hid (hox.out.symm.trans (step_yes he.out (show s0.data.toList :: bys rest = _ from hlc.out.trans (by rw [ha.out]))))
    have hS := h.later b5 (upd_agree o W.heap.size 9) (Nat.le_refl m)
    have qf : Hid (Calls Tryz.prog 56 #[.pointer (some ⟨R, 0, none⟩), .string s0] w2 (Ret (.bool (followsN (rowN s0.data.toList) (rowN last.data.toList))) w2)) := Lib.hid (by
      have := rep_follows R s0 last w2 (fun w' b => by rw [(hS.blk.below b hS.blk.lt).cell]; exact fld43 q.ws x last hS.sd)
      rw [fol_eq] at this
      exact this)
    cases hfo : followsN (rowN s0.data.toList) (rowN last.data.toList) with
    | false =>
      have ho2 := Lib.hid (ho.out.trans (if_neg (by rw [hfo]; decide)))
      rw [hfo] at qf
      clear hfo ho
      go_wp2_with (first | (go_at_call 56; (with_reducible refine qf.out.mono ?_); rintro e w4 ⟨rfl, b6⟩) | (go_at_call 55; (with_reducible refine (want_no _).mono ?_); rintro e w3 ⟨h9, rfl⟩; unfold PanW at h9; subst h9))
      have B6 := B5.below b6 B5.lt
      have hr2 := hres.out _ B6
      have b7 := bCall b5 b6
      refine rdoor_panic _ false _ (.bool false) B6 (by simp [results, Tryz.results28, go_sem, hr2]) (AddPost.no ho2.out (keepZ_far (keepZ_al (keepZ_b b7) b7.size) (Nat.le_refl _)) ?_)
      exact ((b7.mono hbs).alloc (Nat.le_trans hbs b7.size) _).setCell (p := ⟨W.heap.size, 0, none⟩) hbs _
    | true =>
      have ho2 := Lib.hid (ho.out.trans (if_pos hfo))
      rw [hfo] at qf
      obtain ⟨f, hf1', hf2, hf3'⟩ := rd_disp rfl (foll_pos hfo)
      have hlast := Lib.hid (fun hk => hf.1 (foll_in hfo hk))
      have hf3 := Lib.hid hf3'
      have hf1 := Lib.hid hf1'
      have hfp := Lib.hid (foll_pos hfo)
      have hfh := Lib.hid hfo
      have hff := Lib.hid hf
      clear hfo ho hf hf1' hf3'
      go_upto_region 5 with (first | (go_at_call 56; (with_reducible refine qf.out.mono ?_); rintro e w4 ⟨rfl, b6⟩) | (go_at_call 55; (with_reducible refine (want_yes _).mono ?_); rintro e w3 ⟨rfl, rfl⟩))
      have BL4 := BL.below b6 BL.lt
      have B4b := B5.below b6 B5.lt
      have S4 := hS.later b6 (fun _ _ => rfl) (Nat.le_refl m)
      have hlbR : lb ≠ R := fun e => by have := hlb2.out; have := h.blk.lt; omega
      have KS : Hid (∀ w', Blk w' lb 9 (strs (s0 :: rest)).toArray → Blk w' lb 9 (strs (s0 :: rest)).toArray → w'.cell? ⟨lb, 0, none⟩ = some (.string s0)) := Lib.hid (fun w' u _ => by rw [u.cell, List.getElem?_toArray]; rfl)
      obtain ⟨A1, hA1⟩ : ∃ A1, (if n = 1 then some (⟨lb, 0, none⟩ : Addr) else some ⟨lb, 1, none⟩) = A1 := ⟨_, rfl⟩
      obtain ⟨r1, hr1⟩ : ∃ r1, n - 1 = r1 := ⟨_, rfl⟩
      have hr2 : Hid (r1 = rest.length) := Lib.hid (by rw [← hr1, hnn.out]; simp)
      have hlen2 : Hid ((∀ s ∈ s0 :: rest, s.size ≤ 1000000) ∧ rest.length ≤ 1000000) := Lib.hid (by
        obtain ⟨g1, g2⟩ := splitC_len (c := 32) (s := a.data.toList)
        have ea : a.data.toList.length = a.size := by rw [Array.length_toList]; rfl
        have hlc2 := hlc.out
        rw [← hlc2] at g1 g2
        refine ⟨fun s hs => ?_, ?_⟩
        · have := g1 s.data.toList (List.mem_map.2 ⟨s, hs, rfl⟩)
          have es : s.data.toList.length = s.size := by rw [Array.length_toList]; rfl
          omega
        · unfold bys at g2
          rw [List.length_map, List.length_cons] at g2
          omega)
      have qd : Hid (∀ w', Below w4.heap.size w4 w' → Calls Tryz.prog f #[.pointer (some ⟨R, 0, none⟩), .slice A1 r1 r1] w' (RdPost (readR x (rowN s0.data.toList) (bys rest)) (updT o W.heap.size 9) R base m last w')) := Lib.hid (fun w' b => by
        have BL' := BL4.below b BL4.lt
        have := hf3.out R base m _ q x last A1 rest.length rest w' (S4.later b (fun _ _ => rfl) (Nat.le_refl m)) hlast.out ⟨by simp [strs], fun h0 => ⟨lb, 1, by rw [← hA1, if_neg (by have := hr2.out; omega)], BL'.lt, fun j u hu => by
            rw [BL'.cell, List.getElem?_toArray, Nat.add_comm 1 j]
            exact hu⟩⟩ (fun p hp => by
            rw [← hA1] at hp
            split at hp <;> (injection hp with hp; subst hp; exact hlbR)) (Nat.le_refl _) (fun s hs => hlen2.out.1 s (List.mem_cons_of_mem _ hs)) hlen2.out.2 hm (hG.later hbs (bCall (bCall b5 b6) b))
        rwa [← hr2.out] at this)
      have hsz : Hid (s0.size ≤ maxLen) := Lib.hid (Nat.le_trans (hlen2.out.1 s0 (List.mem_cons_self ..)) (by unfold maxLen; omega))
      have hn2 : (1 : Int) ≤ (n : Int) := by omega
      have hn3 : 1 ≤ n := hn1
      have c04 : w4.drew.cell? ⟨lb, 0, none⟩ = some (.string s0) := KS.out w4 BL4 BL4
      clear c0 qf
      refine wp_region_schNQ (a0 := { tmps := #[], defers := [{ target := .fn (.func 42) #[], args := #[.pointer (some ⟨W.heap.size, 0, none⟩)] }] }) (fun w' => w'.cell? ⟨lb, 0, none⟩ = some (.string s0)) 4 (.pointer (some ⟨W.heap.size, 0, none⟩)) (fun c w => c = [{ v := .iface 151 (.agg #[]), recovered := false }] ∧ Blk w W.heap.size 4 #[.bool false] ∧ Below base W w ∧ KeepZ o R W w ∧ ox = none) 0 [(1, 1), (2, 1), (3, 2), (5, 1), (6, 1), (7, 1), (0, 0), (4, 0), (8, 0)] c04 ?_ ?_
      rotate_left 1
      · rintro c ⟨tm, df⟩ w hd ht ⟨rfl, B, bw, kz, ho⟩
        simp only at hd ht
        subst hd
        have hr3 := hres.out _ B
        refine rdoor_panic _ false _ (.bool false) B (by simp [results, Tryz.results28, go_sem, ht, hr3]) (AddPost.no ho (keepZ_far (keepZ_al kz (by have := B.lt; omega)) (Nat.le_refl _)) ?_)
        exact (bw.alloc (by have := B.lt; omega) _).setCell (p := ⟨W.heap.size, 0, none⟩) hbs _
      simp only [pickS, List.getElem?_cons_zero, List.getElem?_cons_succ]
      clear c04
      refine wpSchedN_t ?_
      refine wpSchedN_t ?_
      refine wpSchedN_r ?_
      refine wpSchedN_t ?_
      refine wpSchedN_t ?_
      refine wpSchedN_t ?_
      refine wpSchedN_force (fun K hK => ?_)
      go_simp
      go_at_call 57
      (with_reducible refine (rep_readers _).mono ?_)
      rintro e w5 ⟨mb, rfl, b7, nn, hSM⟩
      have b7' : Below w4.heap.size w4 w5 := bCall (bDr (bRefl w4)) b7
      have BL5 := BL4.below b7' BL4.lt
      have B5b := B4b.below b7' B4b.lt
      have hlk : (Instr.lookup 134 (.map (some mb)) (.string s0) false).run Tryz.prog w5 = .ok (.func (.func f) #[] #[]) w5 := by
        have := hSM.look Tryz.underlying9 Tryz.underlying134 (z := .nilFunc) (by kernel_rfl) hsz.out
        rw [hf1.out] at this
        exact this
      have q5 := Lib.hid (qd.out w5 b7')
      have b57 := bCall (bCall b5 b6) b7'
      refine shut_goK hK KS ?_
      clear hK K
      refine wpSchedN_force (fun K hK => ?_)
      go_simp
      refine shut_goK hK KS ?_
      clear hK K
      refine wpSchedN_force (fun K hK => ?_)
      go_simp
      (with_reducible refine q5.out.mono ?_)
      rintro e w6 ⟨h9, kz, b8⟩
      have hWl : W.heap.size < w5.heap.size := B5b.lt
      have oW : updT o W.heap.size 9 W.heap.size = 9 := if_pos (Nat.le_refl _)
      have oL : updT o W.heap.size 9 lb = 9 := if_pos (by rw [hlb2.out]; omega)
      have hRW : W.heap.size ≠ R := fun e => by have := h.blk.lt; omega
      have B6 : Blk w6 W.heap.size 4 #[.bool false] := (kz.1 W.heap.size hWl hRW (.inr oW)).trans B5b
      have BL6 : Blk w6 lb 9 (strs (s0 :: rest)).toArray := (kz.1 lb BL5.lt hlbR (.inr oL)).trans BL5
      have kz6 : KeepZ o R W w6 := ⟨fun g' hl hR h0 => (kz.1 g' (Nat.lt_trans hl hWl) hR (by rw [upd_agree o W.heap.size 9 g' hl]; exact h0)).trans (b57.block g' hl), (others_below b57).trans kz.2⟩
      cases hrd : readR x (rowN s0.data.toList) (bys rest) with
      | none =>
        rw [hrd] at h9 ho2
        have ho3 : Hid (ox = none) := Lib.hid ho2.out
        simp only at h9
        unfold PanW at h9
        subst h9
        exact ⟨rfl, rfl, rfl, B6, (b57.mono hbs).trans b8, kz6, ho3.out⟩
      | some x' =>
        rw [hrd] at h9 ho2
        have ho3 : Hid (ox = some (x', rowN s0.data.toList)) := Lib.hid ho2.out
        obtain ⟨h9, o6, q6, ha6, S6⟩ := h9
        subst h9
        have b68 := (b57.mono hbs).trans b8
        refine shut_goK hK KS ?_
        clear hK K
        refine anyN_end ?_
        have c06 : w6.cell? ⟨lb, 0, none⟩ = some (.string s0) := KS.out w6 BL6 BL6
        have r43 : w6.cell? ⟨R, 43, none⟩ = some (.string last) := by rw [S6.blk.cell]; exact fld43 q6.ws x' last S6.sd
        have z43 := S6.blk.frozen 43
        have B7 := B6.far (p := ⟨R, 43, none⟩) hRW (.string s0)
        have rok := B7.cell 0
        have zok := B7.frozen 0
        have S7 := S6.setLast s0
        have o6W : o6 W.heap.size = 9 := (ha6 _ hWl).trans oW
        have S8 := Lib.hid (S7.beside (g := W.heap.size) (i := 0) o6W (fun e => hRW e.symm) (.bool true))
        have hfit : Hid (Fit x' s0) := Lib.hid ⟨fun h46 => fit_step hfp.out hrd hfh.out hff.out.1 h46, fun _ => by have := hfp.out; omega⟩
        clear KS
        simp only [Q4]
        go_wp2_with fail
        have hok : ((w6.setCell ⟨R, 43, none⟩ (.string s0)).setCell ⟨W.heap.size, 0, none⟩ (.bool true)).cell? ⟨W.heap.size, 0, none⟩ = some (.bool true) := World.cell?_setCell_same _ _ _ rok
        refine rdoor_idle _ _ (.bool true) (by simp [results, Tryz.results28, go_sem, hok]) ?_
        rw [ho3.out]
        refine ⟨⟨rfl, o6, q6, s0, fun g' hg' => (ha6 g' (Nat.lt_trans hg' hWl)).trans (upd_agree o W.heap.size 9 g' hg'), S8.out, rfl, hfit.out⟩, keepZ_far ⟨fun g' hl hR h0 => ?_, kz6.2.trans (KeepsOthers.setCell _ _ _)⟩ (Nat.le_refl _), (b68.setCell (p := ⟨R, 43, none⟩) h.bR _).setCell (p := ⟨W.heap.size, 0, none⟩) hbs _⟩
        rw [Below.heap_setCell _ _ _ _ hR]
        exact kz6.1 g' hl hR h0
end Go.Proofs.YtmbopkcmbiommaaGreatDoor
namespace Go.Proofs.YtmbopkcmbiommaaGreatDoor
open Go.RowKit
def OwnT (T : Nat → Prop) {β : Type} (B : Nat) (J : β → World → Prop) : Prop := OwnFrom B J ∧ ∀ s W p v, J s W → T p.block → J s (W.setCell p v)
def SeqG {α : Type} (T : Nat → Prop) (n : Nat) (P : Program) (g : Nat) (lb : Array Value) (encs : α → Array Value) (Kp : World → World → Prop) (S Sp : List α → Prop) (Pr : List α → α → Prop) (D0 : Nat) (w : World) : Prop :=
  ∀ (l : Nat) (J Jx : List α → World → Prop) (W : World), Below w.heap.size w W → W.heap.size = w.heap.size + 2 → OwnT T W.heap.size J → OwnT T W.heap.size Jx →
    (∀ pre x W1, J pre W1 → W.heap.size + D0 ≤ W1.heap.size → Pr pre x → YieldAt Fence.wide (n - 1) P l (encs x) W1 fun e W' =>
      (e = .returned (.bool true) ∧ J (pre ++ [x]) W' ∧ Kp W1 W' ∧ KeepsFrom W.heap.size W1 W') ∨ (e = .returned (.bool false) ∧ Jx (pre ++ [x]) W' ∧ KeepsFrom W.heap.size W1 W')) →
    J [] W →
    CallsIn Fence.wide n P g (#[.func (.yield l) #[] #[]] ++ lb) W fun e W' => (∃ v, e = .returned v) ∧ ((∃ xs, S xs ∧ J xs W') ∨ (∃ pre, Sp pre ∧ Jx pre W'))
theorem KeepsFrom.more {B B' : Nat} {W W' : World} (h : KeepsFrom B W W') (hB : B ≤ B') : KeepsFrom B' W W' := ⟨h.size, fun k o hk hw ho => h.same k o (Nat.le_trans hB hk) hw ho⟩
theorem KeepsFrom.put {B l : Nat} {W : World} {o : Obj} (hl : l < B) : KeepsFrom B W (W.putObj l o) := ⟨by simp [World.putObj], fun k _ hk hw _ => (World.putObj_heap_other (by omega)).trans hw⟩
theorem YieldAt.wide {m m' L : Nat} {P : Program} {l : Nat} {args : Array Value} {W : World} {R : Ending → World → Prop} (h : YieldAt Fence.wide m P l args W R) : YieldAt (Fence.wide.inRound L) m' P l args W R := by
  obtain ⟨fn, tmps, assign, body, hy, hf, hr⟩ := h
  exact ⟨fn, tmps, assign, body, hy, hf, fun c cs _ => hr c cs (room_wide _)⟩
theorem wpIn_rangeFuncG {P : Program} {α : Type} {g : Operand} {ps : Array Tmp} {assign body : Code} {Q : Exit → Act → World → Prop} {a : Act} {w : World} (n : Nat)
    {gf : Nat} {lb : Array Value} (hg : a.eval g = .func (.func gf) #[] lb) (eg : ∀ args w, (callFunc gf args).run P w = .ok (.enter gf args) w)
    {encs : α → Array Value} {Kp : World → World → Prop} {S Sp : List α → Prop} {Pr : List α → α → Prop} {T : Nat → Prop} {D0 : Nat} (hseq : SeqG T (n + 1) P gf lb encs Kp S Sp Pr D0 w) (hT : ∀ k, T k → k ≠ w.heap.size ∧ k ≠ w.heap.size + 1)
    (hKt : ∀ {A B C : World}, Kp A B → Kp B C → Kp A C) (hKb : ∀ (W : World) (l : Nat) (o o' : Obj), w.heap.size ≤ l → W.heap[l]? = some o → o.isCells = false → o.isWalk = false → Kp W (W.putObj l o')) (hps : ∀ x, (encs x).size = ps.size)
    (I : List α → World → Prop) (Im : α → Act → List α → World → Prop) (Ix : Code → List α → World → Prop) (hI : OwnFrom w.heap.size I) (hIm : ∀ x a, OwnFrom w.heap.size (Im x a)) (hIx : ∀ c, OwnFrom w.heap.size (Ix c)) (hIT : ∀ s W p v, I s W → T p.block → I s (W.setCell p v)) (hIxT : ∀ c s W p v, Ix c s W → T p.block → Ix c s (W.setCell p v)) (h0 : I [] w)
    (hassign : ∀ (l : Nat) (pre : List α) (x : α) (W : World), I pre W → w.heap.size + 2 + D0 ≤ W.heap.size → Pr pre x →
      assign.wpIn (Fence.wide.inRound l) n P (Exit.then (fun a₁ W₁ => KeepsFrom w.heap.size W W₁ ∧ Kp W W₁ ∧ Im x a₁ pre W₁) (fun _ _ _ => False)) { tmps := (ps.zip (encs x)).foldl (fun t (p, v) => t.setIfInBounds p v) a.tmps, defers := [] } W)
    (hbody : ∀ (l : Nat) (pre : List α) (x : α) (a₁ : Act) (W : World), Im x a₁ pre W → w.heap.size + 2 + D0 ≤ W.heap.size → Pr pre x → body.wpIn (Fence.wide.inRound l) n P (ownPostG w.heap.size Kp I Ix (pre ++ [x]) W) a₁ W)
    (hdone : ∀ (D : Nat) (xs : List α) (W : World), w.heap.size ≤ D → S xs → I xs W → W.heap[D]? = some (.deferred (some [])) → Q .normal { a with defers := { target := .collected D, args := #[] } :: a.defers } W)
    (hstop : ∀ (D : Nat) (c : Code) (pre : List α) (W : World), w.heap.size ≤ D → Sp pre → Ix c pre W → W.heap[D]? = some (.deferred (some [])) → c.wpIn Fence.wide (n + 2) P Q { a with defers := { target := .collected D, args := #[] } :: a.defers } W) :
    (Code.rangeFunc g ps assign body).wpIn Fence.wide (n + 2) P Q a w := by
  refine wpIn_rangeFunc ?_
  intro fn _
  obtain ⟨rec, hrec⟩ : ∃ rec : LoopState → Option Code → Loop, rec = fun st pe => { state := st, pending := pe, fn, tmps := a.tmps, params := ps, assign, body, defers := w.heap.size } := ⟨_, rfl⟩
  obtain ⟨W1, hW1⟩ : ∃ W1, (w.alloc (.deferred (some []))).alloc (.loop (rec .ready none)) = W1 := ⟨_, rfl⟩
  have hL1 : W1.heap[w.heap.size + 1]? = some (.loop (rec .ready none)) := by
    rw [← hW1]; have := World.alloc_heap_new (w.alloc (.deferred (some []))) (.loop (rec .ready none)); rwa [World.size_alloc] at this
  have hK1 : W1.heap[w.heap.size]? = some (.deferred (some [])) := by
    rw [← hW1]; exact (Below.heap_alloc _ _ _ (by simp)).trans (World.alloc_heap_new w _)
  have hI1 : I [] W1 := by rw [← hW1]; exact hI.alloc _ (hI.alloc _ h0)
  have hb1 : Below w.heap.size w W1 := by
    rw [← hW1]; exact ((Below.refl _ w).alloc (Nat.le_refl _) _).alloc (by simp) _
  have hs1 : W1.heap.size = w.heap.size + 2 := by rw [← hW1]; simp
  refine ⟨w.heap.size + 1, [{ target := .collected w.heap.size, args := #[] }], W1, { target := .fn (.func gf) lb, args := #[.func (.yield (w.heap.size + 1)) #[] #[]] }, W1, gf,
    #[.func (.yield (w.heap.size + 1)) #[] #[]] ++ lb, W1, ?_, ?_, ?_, ?_, fun _ => by omega, ?_⟩
  · rw [← hW1, hrec]; exact run_enterLoop_outer _ _ _ _ _
  · simp only [resolve, hg]
    simp [go_sem]
  · intro f' _; trivial
  · simp [invoke, go_sem, eg]
  · have hnw : ∀ {A : World} {row : Option Nat}, (∀ r, row = some r → W1.heap.size ≤ r ∧ ∃ o : Obj, A.heap[r]? = some o ∧ o.isCells = false) → (∀ r, row = some r → w.heap.size ≤ r ∧ ∃ o : Obj, A.heap[r]? = some o ∧ o.isCells = false) :=
      fun hr r e => ⟨by have := (hr r e).1; omega, (hr r e).2⟩
    have hold : ∀ {A B : World} {row : Option Nat} {k : Nat} {ob : Obj}, A.grownBy B row → (∀ r, row = some r → W1.heap.size ≤ r ∧ ∃ o : Obj, A.heap[r]? = some o ∧ o.isCells = false) → k ≤ w.heap.size + 1 → A.heap[k]? = some ob → B.heap[k]? = some ob :=
      fun hg' hr hk ho => (hg'.block _ (Array.getElem?_eq_some_iff.1 ho).1 (fun e => by have := (hr _ e.symm).1; omega)).trans ho
    have hfar : ∀ {p : Addr}, T p.block → w.heap.size ≠ p.block ∧ w.heap.size + 1 ≠ p.block := fun ht => ⟨fun e => (hT _ ht).1 e.symm, fun e => (hT _ ht).2 e.symm⟩
    refine (hseq (w.heap.size + 1)
      (fun pre W => I pre W ∧ W.heap[w.heap.size + 1]? = some (.loop (rec .ready none)) ∧ W.heap[w.heap.size]? = some (.deferred (some [])))
      (fun pre W => ∃ c, Ix c pre W ∧ W.heap[w.heap.size + 1]? = some (.loop (rec .done (some c))) ∧ W.heap[w.heap.size]? = some (.deferred (some [])))
      W1 hb1 hs1
      ⟨fun s A B row hs hg' hr => ⟨hI s A B row hs.1 hg' (hnw hr), hold hg' hr (Nat.le_refl _) hs.2.1, hold hg' hr (Nat.le_succ _) hs.2.2⟩,
        fun s A p v hs ht => ⟨hIT s A p v hs.1 ht, (Below.heap_setCell A p v _ (hfar ht).2).trans hs.2.1, (Below.heap_setCell A p v _ (hfar ht).1).trans hs.2.2⟩⟩
      ⟨fun s A B row hs hg' hr => by
        obtain ⟨c, hc, hl, hk⟩ := hs
        exact ⟨c, hIx c s A B row hc hg' (hnw hr), hold hg' hr (Nat.le_refl _) hl, hold hg' hr (Nat.le_succ _) hk⟩,
        fun s A p v hs ht => by
          obtain ⟨c, hc, hl, hk⟩ := hs
          exact ⟨c, hIxT c s A p v hc ht, (Below.heap_setCell A p v _ (hfar ht).2).trans hl, (Below.heap_setCell A p v _ (hfar ht).1).trans hk⟩⟩
      ?_ ⟨hI1, hL1, hK1⟩).mono ?_
    · rintro pre x W ⟨hi, hl, hk⟩ hszW hlen
      have hszW : w.heap.size + 2 + D0 ≤ W.heap.size := by omega
      have hy := run_yield (P := P) (args := encs x) hl (by rw [hrec]; exact hps x)
      rw [hrec] at hy
      refine ⟨fn, _, assign, body, hy, roundIn_of_wpIn trivial (wpIn_mono (hassign _ pre x W hi hszW hlen) ?_)⟩
      rintro e a1 Wa hp
      cases e with
      | normal =>
        obtain ⟨hka, hkpa, hma⟩ := hp
        have hla := hka.same _ _ (by omega) hl rfl
        have hkka := hka.same _ _ (Nat.le_refl _) hk rfl
        have hlt : w.heap.size + 1 < Wa.heap.size := (Array.getElem?_eq_some_iff.1 hla).1
        refine ⟨_, run_beginRound hla (by rw [hrec]), ?_⟩
        have hl2 : (Wa.putObj (w.heap.size + 1) (.loop { rec .ready none with state := .busy })).heap[w.heap.size + 1]? = some (.loop { rec .ready none with state := .busy }) := World.putObj_heap_same hlt
        have hk2 : (Wa.putObj (w.heap.size + 1) (.loop { rec .ready none with state := .busy })).heap[w.heap.size]? = some (.deferred (some [])) := (World.putObj_heap_other (by omega)).trans hkka
        have hw2 : Kp W (Wa.putObj (w.heap.size + 1) (.loop { rec .ready none with state := .busy })) := hKt hkpa (hKb _ _ _ _ (by omega) hla rfl rfl)
        refine wpIn_mono (hbody _ pre x a1 _ ((hIm x a1).putObj _ hma (by omega) hla rfl) (by have := hka.size; simp [World.putObj]; omega) hlen) ?_
        have fin : ∀ (jump : Option Code) (W3 : World), KeepsFrom w.heap.size (Wa.putObj (w.heap.size + 1) (.loop { rec .ready none with state := .busy })) W3 →
            (Instr.endRound (w.heap.size + 1) jump).run P W3 = .ok (.bool jump.isNone) (W3.putObj (w.heap.size + 1) (.loop (rec (if jump.isNone then .ready else .done) jump))) ∧
            W3.heap[w.heap.size + 1]? = some (.loop { rec .ready none with state := .busy }) ∧
            (W3.putObj (w.heap.size + 1) (.loop (rec (if jump.isNone then .ready else .done) jump))).heap[w.heap.size + 1]? = some (.loop (rec (if jump.isNone then .ready else .done) jump)) ∧
            (W3.putObj (w.heap.size + 1) (.loop (rec (if jump.isNone then .ready else .done) jump))).heap[w.heap.size]? = some (.deferred (some [])) := fun jump W3 hk3 => by
          have hl3 := hk3.same _ _ (by omega) hl2 rfl
          have := run_endRound (P := P) jump hl3
          rw [hrec] at this ⊢
          exact ⟨this, by rw [hrec] at hl3; exact hl3, World.putObj_heap_same (Array.getElem?_eq_some_iff.1 hl3).1, (World.putObj_heap_other (by omega)).trans (hk3.same _ _ (Nat.le_refl _) hk2 rfl)⟩
        have kf : ∀ (W3 : World) (ob : Obj), KeepsFrom w.heap.size (Wa.putObj (w.heap.size + 1) (.loop { rec .ready none with state := .busy })) W3 → KeepsFrom W1.heap.size W (W3.putObj (w.heap.size + 1) ob) := fun W3 ob h3 =>
          (((KeepsFrom.more hka (by omega)).trans (KeepsFrom.put (by omega))).trans (KeepsFrom.more h3 (by omega))).trans (KeepsFrom.put (by omega))
        rintro e a3 W3 hp
        cases e with
        | normal =>
          obtain ⟨hk3, hkp3, hi3⟩ := hp
          obtain ⟨hr, hl3, hl4, hk4⟩ := fin none W3 hk3
          exact ⟨_, _, hr, .inl ⟨rfl, ⟨hI.putObj _ hi3 (by omega) hl3 rfl, hl4, hk4⟩, hKt (hKt hw2 hkp3) (hKb _ _ _ _ (by omega) hl3 rfl rfl), kf _ _ hk3⟩⟩
        | ret =>
          obtain ⟨hk3, hi3⟩ := hp
          obtain ⟨hr, hl3, hl4, hk4⟩ := fin (some .ret) W3 hk3
          exact ⟨_, _, hr, .inr ⟨rfl, ⟨.ret, (hIx _).putObj _ hi3 (by omega) hl3 rfl, hl4, hk4⟩, kf _ _ hk3⟩⟩
        | exit id =>
          obtain ⟨hk3, hi3⟩ := hp
          obtain ⟨hr, hl3, hl4, hk4⟩ := fin (some (.exit id)) W3 hk3
          exact ⟨_, _, hr, .inr ⟨rfl, ⟨.exit id, (hIx _).putObj _ hi3 (by omega) hl3 rfl, hl4, hk4⟩, kf _ _ hk3⟩⟩
        | goto t =>
          obtain ⟨hk3, hi3⟩ := hp
          obtain ⟨hr, hl3, hl4, hk4⟩ := fin (some (.goto t)) W3 hk3
          exact ⟨_, _, hr, .inr ⟨rfl, ⟨.goto t, (hIx _).putObj _ hi3 (by omega) hl3 rfl, hl4, hk4⟩, kf _ _ hk3⟩⟩
        | panic ch => exact hp.elim
        | outgrown => exact hp.elim
      | ret => exact hp.elim
      | exit id => exact hp.elim
      | goto t => exact hp.elim
      | panic ch => exact hp.elim
      | outgrown => exact hp.elim
    · rintro e W2 ⟨⟨v, rfl⟩, (⟨xs, hS, hi, hl, hk⟩ | ⟨pre, hSp, c, hi, hl, hk⟩)⟩
      · exact ⟨none, _, by have := run_endLoop (P := P) hl (by rw [hrec]; simp); rw [hrec] at this; exact this, hdone _ xs _ (Nat.le_refl _) hS (hI.putObj _ hi (by omega) hl rfl) ((World.putObj_heap_other (by omega)).trans hk)⟩
      · exact ⟨some c, _, by have := run_endLoop (P := P) hl (by rw [hrec]; simp); rw [hrec] at this; exact this, hstop _ c pre _ (Nat.le_refl _) hSp ((hIx c).putObj _ hi (by omega) hl rfl) ((World.putObj_heap_other (by omega)).trans hk)⟩
end Go.Proofs.YtmbopkcmbiommaaGreatDoor
