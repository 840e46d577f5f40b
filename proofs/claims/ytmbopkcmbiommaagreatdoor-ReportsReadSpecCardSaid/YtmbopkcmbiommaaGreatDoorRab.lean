/- Plain: what is printed is read back. -/
import Derived.Test.YtmbopkcmbiommaaGreatDoorRaa
set_option maxRecDepth 1000000
set_option maxHeartbeats 16000000
namespace Go.Proofs.YtmbopkcmbiommaaGreatDoor
open Go
theorem itB_no {n : Int} {c : UInt8} (hc : c = 32 ∨ c = 10) : ∀ x ∈ itB n, x ≠ c := by
  intro x hx e
  subst e
  rcases itB_ch x hx with h | h
  · unfold isD at h
    rcases hc with rfl | rfl
    · exact absurd h.1 (by decide)
    · exact absurd h.1 (by decide)
  · rcases hc with rfl | rfl <;> cases h
theorem split_nums : ∀ (l : List Int) (a : By), (∀ x ∈ a, x ≠ 32) → splitC 32 (a ++ numsT l) = a :: l.map itB
  | [], a, h => by
    show splitC 32 (a ++ []) = _
    rw [List.append_nil, splitC_none h]; rfl
  | n :: l, a, h => by
    show splitC 32 (a ++ 32 :: (itB n ++ numsT l)) = _
    rw [splitC_cons h, split_nums l (itB n) (itB_no (.inl rfl))]; rfl
theorem numsO_map : ∀ {l : List Int}, l.all okN = true → numsO (l.map itB) = some l
  | [], _ => rfl
  | n :: l, h => by
    rw [List.all_cons, Bool.and_eq_true] at h
    show (match numO (itB n), numsO (l.map itB) with | some n, some l => some (n :: l) | _, _ => none) = _
    rw [numO_it h.1, numsO_map h.2]
theorem numsT_no {c : UInt8} (hc : c = 10) : ∀ (l : List Int), ∀ x ∈ numsT l, x ≠ c := by
  intro l x hx
  unfold numsT at hx
  obtain ⟨n, -, h⟩ := List.mem_flatMap.1 hx
  unfold numT at h
  rcases List.mem_cons.1 h with rfl | h
  · subst hc; decide
  · exact itB_no (.inr hc) x h
theorem word_no (k : Nat) : (∀ x ∈ wordN k, x ≠ 32) ∧ (∀ x ∈ wordN k, x ≠ 10) := by
  unfold wordN
  split <;> decide
theorem rowN_word {k : Nat} (h1 : 1 ≤ k) (h2 : k ≤ 10) : rowN (wordN k) = k := by
  have : k = 1 ∨ k = 2 ∨ k = 3 ∨ k = 4 ∨ k = 5 ∨ k = 6 ∨ k = 7 ∨ k = 8 ∨ k = 9 ∨ k = 10 := by omega
  rcases this with rfl | rfl | rfl | rfl | rfl | rfl | rfl | rfl | rfl | rfl <;> decide
theorem step_row {w : Wld} {last : Nat} {r : Rw} (h1 : 2 ≤ r.1) (h2 : r.1 ≤ 10) (ho : okR r = true) (hf : formR r.1 r.2 = true) (hfo : followsN r.1 last = true) : stepW (w, last) (rowT r) = some (addR w r, r.1) := by
  unfold stepW rowT
  rw [cutNl_row]
  simp only
  rw [split_nums r.2 _ (word_no r.1).1]
  simp only
  rw [rowN_word (by omega) h2, if_pos hfo]
  unfold readR
  rw [if_neg (by omega), numsO_map ho]
  simp only
  rw [if_pos hf]
  rfl
theorem hexC_val : ∀ n, n < 16 → hexV (hexC n) = some n := by
  intro n h
  have : n = 0 ∨ n = 1 ∨ n = 2 ∨ n = 3 ∨ n = 4 ∨ n = 5 ∨ n = 6 ∨ n = 7 ∨ n = 8 ∨ n = 9 ∨ n = 10 ∨ n = 11 ∨ n = 12 ∨ n = 13 ∨ n = 14 ∨ n = 15 := by omega
  rcases this with rfl | rfl | rfl | rfl | rfl | rfl | rfl | rfl | rfl | rfl | rfl | rfl | rfl | rfl | rfl | rfl <;> decide
theorem hexC_no : ∀ n, n < 16 → hexC n ≠ 32 ∧ hexC n ≠ 10 := by
  intro n h
  have : n = 0 ∨ n = 1 ∨ n = 2 ∨ n = 3 ∨ n = 4 ∨ n = 5 ∨ n = 6 ∨ n = 7 ∨ n = 8 ∨ n = 9 ∨ n = 10 ∨ n = 11 ∨ n = 12 ∨ n = 13 ∨ n = 14 ∨ n = 15 := by omega
  rcases this with rfl | rfl | rfl | rfl | rfl | rfl | rfl | rfl | rfl | rfl | rfl | rfl | rfl | rfl | rfl | rfl <;> decide
theorem pairs_hex : ∀ {l : List Nat}, (∀ x ∈ l, x < 256) → pairsO (hexT l) = some l
  | [], _ => rfl
  | d :: l, h => by
    have hd := h d (List.mem_cons_self ..)
    show (match hexV (hexC (d / 16)), hexV (hexC (d % 16)), pairsO (hexT l) with | some x, some y, some l => some ((16 * x + y) :: l) | _, _, _ => none) = _
    rw [hexC_val _ (by omega), hexC_val _ (by omega), pairs_hex (fun x hx => h x (List.mem_cons_of_mem _ hx))]
    simp only
    rw [Nat.div_add_mod]
theorem hexT_len (l : List Nat) : (hexT l).length = 2 * l.length := by
  unfold hexT
  induction l with
  | nil => rfl
  | cons d l ih => rw [List.flatMap_cons, List.length_append, ih, List.length_cons]; simp; omega
theorem hexT_no {l : List Nat} (h : ∀ x ∈ l, x < 256) : ∀ x ∈ hexT l, x ≠ 32 ∧ x ≠ 10 := by
  intro x hx
  obtain ⟨d, hd, hx⟩ := List.mem_flatMap.1 hx
  have := h d hd
  simp only [List.mem_cons, List.not_mem_nil, or_false] at hx
  rcases hx with rfl | rfl
  · exact hexC_no _ (by omega)
  · exact hexC_no _ (by omega)
theorem seed_hex {l : List Nat} (h : ∀ x ∈ l, x < 256) (hl : l.length = 32) : seedO (hexT l) = some l := by
  unfold seedO
  rw [if_pos (by rw [hexT_len, hl]), pairs_hex h]
theorem split_nums2 : ∀ (l : List Int) (a b : By), (∀ x ∈ a, x ≠ 32) → (∀ x ∈ b, x ≠ 32) → splitC 32 (a ++ numsT l ++ 32 :: b) = a :: (l.map itB ++ [b])
  | [], a, b, h, hb => by
    show splitC 32 (a ++ [] ++ 32 :: b) = _
    rw [List.append_nil, splitC_cons h, splitC_none hb]; rfl
  | n :: l, a, b, h, hb => by
    show splitC 32 (a ++ 32 :: (itB n ++ numsT l) ++ 32 :: b) = _
    rw [List.append_assoc, List.cons_append, splitC_cons h, split_nums2 l (itB n) b (itB_no (.inl rfl)) hb]; rfl
def Wld.head (w x : Wld) : Wld := { w with people := x.people, covers := x.covers, offs := x.offs, seed := x.seed }
theorem step_head {w x : Wld} (hp : okN x.people = true) (hc : okN x.covers = true) (ho : okN x.offs = true) (hs : ∀ d ∈ x.seed, d < 256) (hl : x.seed.length = 32) : stepW (w, 0) (headT x) = some (w.head x, 1) := by
  unfold stepW headT
  rw [cutNl_row]
  simp only
  rw [split_nums2 _ wWorld _ (word_no 1).1 (fun y hy => (hexT_no hs y hy).1)]
  simp only
  rw [show rowN wWorld = 1 by decide, if_pos (by decide)]
  unfold readR
  rw [if_pos rfl]
  simp only [List.map_cons, List.map_nil, List.cons_append, List.nil_append]
  rw [numO_it hp, numO_it hc, numO_it ho, seed_hex hs hl]
  rfl
theorem foldW_app : ∀ (a b : List By) (n : Nat) (st : Wld × Nat), foldW n st (a ++ b) = match foldW n st a with | .inl st' => foldW (n + a.length) st' b | .inr k => .inr k
  | [], b, n, st => by simp [foldW]
  | t :: a, b, n, st => by
    show (match stepW st t with | some st' => foldW (n + 1) st' (a ++ b) | none => .inr (n + 1)) = match (match stepW st t with | some st' => foldW (n + 1) st' a | none => .inr (n + 1)) with | .inl st' => foldW (n + (a.length + 1)) st' b | .inr k => .inr k
    cases stepW st t with
    | none => rfl
    | some st' =>
      simp only
      rw [foldW_app a b (n + 1) st', show n + 1 + a.length = n + (a.length + 1) by omega]
def chainR : Nat → List Rw → Prop
  | _, [] => True
  | last, r :: rs => (2 ≤ r.1 ∧ r.1 ≤ 10 ∧ okR r = true ∧ formR r.1 r.2 = true ∧ followsN r.1 last = true) ∧ chainR r.1 rs
def lastK (last : Nat) (rs : List Rw) : Nat := rs.foldl (fun _ r => r.1) last
theorem fold_rows : ∀ (rs : List Rw) (n : Nat) (w : Wld) (last : Nat), chainR last rs → foldW n (w, last) (rs.map rowT) = .inl (rs.foldl addR w, lastK last rs)
  | [], n, w, last, _ => rfl
  | r :: rs, n, w, last, h => by
    rw [List.map_cons]
    unfold foldW
    rw [step_row h.1.1 h.1.2.1 h.1.2.2.1 h.1.2.2.2.1 h.1.2.2.2.2]
    exact fold_rows rs (n + 1) (addR w r) r.1 h.2
theorem chainR_app : ∀ {a b : List Rw} {last : Nat}, chainR last a → chainR (lastK last a) b → chainR last (a ++ b)
  | [], _, _, _, h => h
  | _ :: _, _, _, h, h2 => ⟨h.1, chainR_app h.2 h2⟩
theorem lastK_app (last : Nat) (a b : List Rw) : lastK last (a ++ b) = lastK (lastK last a) b := List.foldl_append
theorem chain_same {k : Nat} (hk : k = 2 ∨ k = 3 ∨ k = 7 ∨ k = 8 ∨ k = 9 ∨ k = 10) : ∀ {rs : List Rw} {last : Nat}, (∀ r ∈ rs, r.1 = k ∧ okR r = true ∧ formR k r.2 = true) → 1 ≤ last → last ≤ k → chainR last rs ∧ last ≤ lastK last rs ∧ lastK last rs ≤ k
  | [], last, _, _, h2 => ⟨trivial, Nat.le_refl _, h2⟩
  | r :: rs, last, h, h1, h2 => by
    obtain ⟨e, ho, hf⟩ := h r (List.mem_cons_self ..)
    obtain ⟨q1, q2, q3⟩ := chain_same hk (rs := rs) (last := k) (fun x hx => h x (List.mem_cons_of_mem _ hx)) (by omega) (Nat.le_refl _)
    refine ⟨⟨⟨by omega, by omega, ho, by rw [e]; exact hf, ?_⟩, by rw [e]; exact q1⟩, ?_, ?_⟩
    · rw [e]
      unfold followsN
      rw [if_neg (by omega), if_neg (by omega), if_neg (by omega), if_neg (by omega)]
      exact decide_eq_true ⟨by omega, h1, h2⟩
    · show last ≤ lastK r.1 rs
      rw [e]; omega
    · show lastK r.1 rs ≤ k
      rw [e]; exact q3
theorem lastL_snoc (f : Lin → Lin) (l : List Lin) (x : Lin) : lastL f (l ++ [x]) = l ++ [f x] := by
  unfold lastL
  rw [List.reverse_append]
  simp
theorem add_rules : ∀ (rs : List Rl) (w : Wld) (ls : List Lin) (y : Lin), w.lines = ls ++ [y] → (rs.map ruleR).foldl addR w = { w with lines := ls ++ [{ y with rules := y.rules ++ rs }] }
  | [], w, ls, y, h => by
    rw [List.append_nil, show ({ y with rules := y.rules } : Lin) = y from rfl, ← h]; rfl
  | r :: rs, w, ls, y, h => by
    rw [List.map_cons, List.foldl_cons]
    have e : addR w (ruleR r) = { w with lines := ls ++ [{ y with rules := y.rules ++ [r] }] } := by
      show ({ w with lines := lastL (fun x => { x with rules := x.rules ++ [⟨r.first, r.until_, r.every⟩] }) w.lines } : Wld) = _
      rw [h, lastL_snoc]
    rw [e, add_rules rs _ ls _ rfl]
    simp only [List.append_assoc]
    rfl
theorem add_gaps : ∀ (rs : List Gp) (w : Wld) (ls : List Lin) (y : Lin), w.lines = ls ++ [y] → (rs.map gapR).foldl addR w = { w with lines := ls ++ [{ y with off := y.off ++ rs }] }
  | [], w, ls, y, h => by
    rw [List.append_nil, show ({ y with off := y.off } : Lin) = y from rfl, ← h]; rfl
  | r :: rs, w, ls, y, h => by
    rw [List.map_cons, List.foldl_cons]
    have e : addR w (gapR r) = { w with lines := ls ++ [{ y with off := y.off ++ [r] }] } := by
      show ({ w with lines := lastL (fun x => { x with off := x.off ++ [⟨r.from_, r.until_⟩] }) w.lines } : Wld) = _
      rw [h, lastL_snoc]
    rw [e, add_gaps rs _ ls _ rfl]
    simp only [List.append_assoc]
    rfl
theorem add_line (w : Wld) (x : Lin) : addR w (lineR x) = { w with lines := w.lines ++ [⟨x.offs, x.legs, x.cls, x.room, [], []⟩] } := by
  show ({ w with lines := w.lines ++ [⟨(x.offs ++ x.legs).take ((x.offs.length : Int)).toNat, (x.offs ++ x.legs).drop ((x.offs.length : Int)).toNat, x.cls, x.room, [], []⟩] } : Wld) = _
  rw [show ((x.offs.length : Int)).toNat = x.offs.length by omega, List.take_left, List.drop_left]
theorem add_lin (w : Wld) (x : Lin) : (linR x).foldl addR w = { w with lines := w.lines ++ [x] } := by
  unfold linR
  rw [List.foldl_cons, List.foldl_append, add_line, add_rules x.rules _ w.lines _ rfl, add_gaps x.off _ w.lines _ rfl]
  simp
theorem add_lins : ∀ (l : List Lin) (w : Wld), (l.flatMap linR).foldl addR w = { w with lines := w.lines ++ l }
  | [], w => by simp
  | x :: l, w => by rw [List.flatMap_cons, List.foldl_append, add_lin, add_lins l]; simp
theorem add_cls : ∀ (b g : List Int) (w : Wld), b.length = g.length → ((b.zip g).map clsR).foldl addR w = { w with base := w.base ++ b, leg := w.leg ++ g }
  | [], [], w, _ => by simp
  | [], _ :: _, _, h => by cases h
  | _ :: _, [], _, h => by cases h
  | x :: b, y :: g, w, h => by
    rw [List.zip_cons_cons, List.map_cons, List.foldl_cons]
    have e : addR w (clsR (x, y)) = { w with base := w.base ++ [x], leg := w.leg ++ [y] } := rfl
    rw [e, add_cls b g _ (by simpa using h)]
    simp only [List.append_assoc]
    rfl
theorem add_ties : ∀ (l : List Tie) (w : Wld), (l.map tieR).foldl addR w = { w with tiers := w.tiers ++ l }
  | [], w => by simp
  | x :: l, w => by
    rw [List.map_cons, List.foldl_cons, show addR w (tieR x) = { w with tiers := w.tiers ++ [x] } from rfl, add_ties l]
    simp only [List.append_assoc]
    rfl
theorem odr_back (b : Bool) : decide (flagI b = 1) = b := by cases b <;> decide
theorem add_odrs : ∀ (l : List Odr) (w : Wld), (l.map odrR).foldl addR w = { w with orders := w.orders ++ l }
  | [], w => by simp
  | x :: l, w => by
    have e : addR w (odrR x) = { w with orders := w.orders ++ [x] } := by
      show ({ w with orders := w.orders ++ [⟨x.from_, x.person, x.dest, x.cls, x.after, x.by_, x.crowd, x.pay, x.ag, decide (flagI x.back = 1), x.els⟩] } : Wld) = _
      rw [odr_back]
    rw [List.map_cons, List.foldl_cons, e, add_odrs l]
    simp only [List.append_assoc]
    rfl
theorem add_ents : ∀ (l : List Ent) (w : Wld), (l.map entR).foldl addR w = { w with ents := w.ents ++ l }
  | [], w => by simp
  | x :: l, w => by
    rw [List.map_cons, List.foldl_cons, show addR w (entR x) = { w with ents := w.ents ++ [x] } from rfl, add_ents l]
    simp only [List.append_assoc]
    rfl
theorem add_secs : ∀ (l : List Int) (w : Wld), (l.map secR).foldl addR w = { w with secs := w.secs ++ l }
  | [], w => by simp
  | x :: l, w => by
    rw [List.map_cons, List.foldl_cons, show addR w (secR x) = { w with secs := w.secs ++ [x] } from rfl, add_secs l]
    simp only [List.append_assoc]
    rfl
theorem add_slps : ∀ (l : List Slp) (w : Wld), (l.map slpR).foldl addR w = { w with faults := w.faults ++ l }
  | [], w => by simp
  | x :: l, w => by
    rw [List.map_cons, List.foldl_cons, show addR w (slpR x) = { w with faults := w.faults ++ [x] } from rfl, add_slps l]
    simp only [List.append_assoc]
    rfl
structure Wld.fine (w : Wld) : Prop where
  leg : w.base.length = w.leg.length
  lin : ∀ x ∈ w.lines, x.offs.length = x.legs.length + 1
  seed : ∀ d ∈ w.seed, d < 256
  s32 : w.seed.length = 32
theorem add_all (w : Wld) (hl : w.base.length = w.leg.length) : w.rows.foldl addR (zeroW.head w) = w := by
  unfold Wld.rows
  rw [List.foldl_append, List.foldl_append, List.foldl_append, List.foldl_append, List.foldl_append, List.foldl_append, add_cls _ _ _ hl, add_ties, add_lins, add_odrs, add_ents, add_secs, add_slps]
  rfl
theorem chain_lin {x : Lin} (hx : x.offs.length = x.legs.length + 1) (ho : ∀ r ∈ linR x, okR r = true) {last : Nat} (h1 : 1 ≤ last) (h6 : last ≤ 6) : chainR last (linR x) ∧ 4 ≤ lastK last (linR x) ∧ lastK last (linR x) ≤ 6 := by
  have hgap : ∀ (l : List Gp) (last : Nat), (∀ r ∈ l.map gapR, okR r = true) → 4 ≤ last → last ≤ 6 → chainR last (l.map gapR) ∧ 4 ≤ lastK last (l.map gapR) ∧ lastK last (l.map gapR) ≤ 6 := by
    intro l
    induction l with
    | nil => exact fun last _ a b => ⟨trivial, a, b⟩
    | cons g l ih =>
      intro last h a b
      obtain ⟨q1, q2, q3⟩ := ih 6 (fun r hr => h r (List.mem_cons_of_mem _ hr)) (by omega) (by omega)
      refine ⟨⟨⟨show 2 ≤ 6 by decide, show 6 ≤ 10 by decide, h _ (List.mem_cons_self ..), rfl, ?_⟩, q1⟩, q2, q3⟩
      show followsN 6 last = true
      unfold followsN
      rw [if_neg (by omega), if_neg (by omega), if_neg (by omega), if_pos rfl]
      exact decide_eq_true ⟨a, b⟩
  have hrule : ∀ (l : List Rl) (last : Nat), (∀ r ∈ l.map ruleR, okR r = true) → last = 4 ∨ last = 5 → chainR last (l.map ruleR) ∧ (lastK last (l.map ruleR) = 4 ∨ lastK last (l.map ruleR) = 5) := by
    intro l
    induction l with
    | nil => exact fun last _ a => ⟨trivial, a⟩
    | cons g l ih =>
      intro last h a
      obtain ⟨q1, q2⟩ := ih 5 (fun r hr => h r (List.mem_cons_of_mem _ hr)) (.inr rfl)
      refine ⟨⟨⟨show 2 ≤ 5 by decide, show 5 ≤ 10 by decide, h _ (List.mem_cons_self ..), rfl, ?_⟩, q1⟩, q2⟩
      show followsN 5 last = true
      unfold followsN
      rw [if_neg (by omega), if_neg (by omega), if_pos rfl]
      exact decide_eq_true a
  have hh := ho (lineR x) (List.mem_cons_self ..)
  obtain ⟨r1, r2⟩ := hrule x.rules 4 (fun r hr => ho r (List.mem_cons_of_mem _ (List.mem_append.2 (.inl hr)))) (.inl rfl)
  obtain ⟨g1, g2, g3⟩ := hgap x.off (lastK 4 (x.rules.map ruleR)) (fun r hr => ho r (List.mem_cons_of_mem _ (List.mem_append.2 (.inr hr)))) (by omega) (by omega)
  have e : lastK last (linR x) = lastK (lastK 4 (x.rules.map ruleR)) (x.off.map gapR) := by
    show lastK 4 (x.rules.map ruleR ++ x.off.map gapR) = _
    rw [lastK_app]
  refine ⟨⟨⟨show 2 ≤ 4 by decide, show 4 ≤ 10 by decide, hh, ?_, ?_⟩, chainR_app r1 g1⟩, by rw [e]; exact g2, by rw [e]; exact g3⟩
  · show formR 4 (lineR x).2 = true
    unfold formR
    rw [if_neg (by omega), if_pos rfl]
    have hl : (lineR x).2.length = 3 + (x.offs.length + x.legs.length) := by
      show ([x.cls, x.room, (x.offs.length : Int)] ++ (x.offs ++ x.legs)).length = _
      rw [List.length_append, List.length_append]; rfl
    have h2 : nat_ (lineR x).2 2 = (x.offs.length : Int) := rfl
    rw [hl, h2]
    exact decide_eq_true ⟨by omega, by omega, by omega, by omega⟩
  · show followsN 4 last = true
    unfold followsN
    rw [if_neg (by omega), if_pos rfl]
    exact decide_eq_true ⟨h1, h6⟩
theorem chain_lins : ∀ {l : List Lin}, (∀ x ∈ l, x.offs.length = x.legs.length + 1) → (∀ r ∈ l.flatMap linR, okR r = true) → ∀ {last : Nat}, 1 ≤ last → last ≤ 6 → chainR last (l.flatMap linR) ∧ 1 ≤ lastK last (l.flatMap linR) ∧ lastK last (l.flatMap linR) ≤ 6
  | [], _, _, last, h1, h6 => ⟨trivial, h1, h6⟩
  | x :: l, hx, ho, last, h1, h6 => by
    obtain ⟨a1, a2, a3⟩ := chain_lin (hx x (List.mem_cons_self ..)) (fun r hr => ho r (List.mem_append.2 (.inl hr))) h1 h6
    obtain ⟨b1, b2, b3⟩ := chain_lins (l := l) (fun y hy => hx y (List.mem_cons_of_mem _ hy)) (fun r hr => ho r (List.mem_append.2 (.inr hr))) (last := lastK last (linR x)) (by omega) a3
    rw [List.flatMap_cons, lastK_app]
    exact ⟨chainR_app a1 b1, b2, b3⟩
theorem chain_all {w : Wld} (hf : w.fine) (ho : ∀ r ∈ w.rows, okR r = true) : chainR 1 w.rows := by
  unfold Wld.rows at ho ⊢
  have m := fun {a b : List Rw} (h : ∀ r ∈ a ++ b, okR r = true) => (⟨fun r hr => h r (List.mem_append.2 (.inl hr)), fun r hr => h r (List.mem_append.2 (.inr hr))⟩ : (∀ r ∈ a, okR r = true) ∧ (∀ r ∈ b, okR r = true))
  obtain ⟨o1, ho⟩ := m ho
  obtain ⟨o2, ho⟩ := m ho
  obtain ⟨o3, ho⟩ := m ho
  obtain ⟨o4, ho⟩ := m ho
  obtain ⟨o5, ho⟩ := m ho
  obtain ⟨o6, o7⟩ := m ho
  obtain ⟨a1, a2, a3⟩ := chain_same (k := 2) (by decide) (rs := (w.base.zip w.leg).map clsR) (last := 1) (fun r hr => ⟨by obtain ⟨x, -, rfl⟩ := List.mem_map.1 hr; rfl, o1 r hr, by obtain ⟨x, -, rfl⟩ := List.mem_map.1 hr; rfl⟩) (by omega) (by omega)
  obtain ⟨b1, b2, b3⟩ := chain_same (k := 3) (by decide) (rs := w.tiers.map tieR) (last := _) (fun r hr => ⟨by obtain ⟨x, -, rfl⟩ := List.mem_map.1 hr; rfl, o2 r hr, by obtain ⟨x, -, rfl⟩ := List.mem_map.1 hr; rfl⟩) (by omega) (Nat.le_trans a3 (by omega))
  obtain ⟨c1, c2, c3⟩ := chain_lins hf.lin o3 (last := lastK (lastK 1 ((w.base.zip w.leg).map clsR)) (w.tiers.map tieR)) (by omega) (by omega)
  obtain ⟨d1, d2, d3⟩ := chain_same (k := 7) (by decide) (rs := w.orders.map odrR) (last := _) (fun r hr => ⟨by obtain ⟨x, -, rfl⟩ := List.mem_map.1 hr; rfl, o4 r hr, by
    obtain ⟨x, -, rfl⟩ := List.mem_map.1 hr
    show formR 7 (odrR x).2 = true
    unfold formR
    rw [if_neg (by omega), if_neg (by omega), if_neg (by omega), if_pos rfl]
    have h8 : nat_ (odrR x).2 8 = flagI x.back := rfl
    rw [h8]
    refine decide_eq_true ⟨?_, by cases x.back <;> decide⟩
    show 10 ≤ ([x.from_, x.person, x.dest, x.cls, x.after, x.by_, x.crowd, x.pay, flagI x.back, x.els] ++ x.ag).length
    rw [List.length_append]
    exact Nat.le_add_right _ _⟩) c2 (Nat.le_trans c3 (by omega))
  obtain ⟨e1, e2, e3⟩ := chain_same (k := 8) (by decide) (rs := w.ents.map entR) (last := _) (fun r hr => ⟨by obtain ⟨x, -, rfl⟩ := List.mem_map.1 hr; rfl, o5 r hr, by obtain ⟨x, -, rfl⟩ := List.mem_map.1 hr; rfl⟩) (Nat.le_trans c2 d2) (Nat.le_trans d3 (by omega))
  obtain ⟨g1, g2, g3⟩ := chain_same (k := 9) (by decide) (rs := w.secs.map secR) (last := _) (fun r hr => ⟨by obtain ⟨x, -, rfl⟩ := List.mem_map.1 hr; rfl, o6 r hr, by obtain ⟨x, -, rfl⟩ := List.mem_map.1 hr; rfl⟩) (Nat.le_trans c2 (Nat.le_trans d2 e2)) (Nat.le_trans e3 (by omega))
  obtain ⟨i1, i2, i3⟩ := chain_same (k := 10) (by decide) (rs := w.faults.map slpR) (last := _) (fun r hr => ⟨by obtain ⟨x, -, rfl⟩ := List.mem_map.1 hr; rfl, o7 r hr, by obtain ⟨x, -, rfl⟩ := List.mem_map.1 hr; rfl⟩) (Nat.le_trans c2 (Nat.le_trans d2 (Nat.le_trans e2 g2))) (Nat.le_trans g3 (by omega))
  exact chainR_app a1 (chainR_app b1 (chainR_app c1 (chainR_app d1 (chainR_app e1 (chainR_app g1 i1)))))
theorem rowT_ends (r : Rw) : ∃ a, rowT r = a ++ [10] ∧ ∀ x ∈ a, x ≠ 10 := by
  refine ⟨wordN r.1 ++ numsT r.2, rfl, fun x hx => ?_⟩
  rcases List.mem_append.1 hx with h | h
  · exact (word_no r.1).2 x h
  · exact numsT_no rfl r.2 x h
theorem headT_ends {w : Wld} (hs : ∀ d ∈ w.seed, d < 256) : ∃ a, headT w = a ++ [10] ∧ ∀ x ∈ a, x ≠ 10 := by
  refine ⟨_, rfl, fun x hx => ?_⟩
  rcases List.mem_append.1 hx with h | h
  · rcases List.mem_append.1 h with h | h
    · exact (word_no 1).2 x h
    · exact numsT_no rfl _ x h
  · rcases List.mem_cons.1 h with rfl | h
    · decide
    · exact (hexT_no hs x h).2
theorem lines_rows : ∀ (rs : List Rw), linesC (rs.flatMap rowT) = rs.map rowT
  | [] => rfl
  | r :: rs => by
    obtain ⟨a, e, h⟩ := rowT_ends r
    rw [List.flatMap_cons, List.map_cons, e, List.append_assoc, List.singleton_append, linesC_row h, lines_rows rs]
theorem lines_text {w : Wld} (hs : ∀ d ∈ w.seed, d < 256) : linesC w.text = headT w :: w.rows.map rowT := by
  obtain ⟨a, e, h⟩ := headT_ends hs
  unfold Wld.text
  rw [e, List.append_assoc, List.singleton_append, linesC_row h, lines_rows]
theorem okW_parts {w : Wld} (h : w.okW = true) : okN w.people = true ∧ okN w.covers = true ∧ okN w.offs = true ∧ ∀ r ∈ w.rows, okR r = true := by
  unfold Wld.okW at h
  simp only [Bool.and_eq_true, List.all_eq_true] at h
  exact ⟨h.1.1, h.1.2.1, h.1.2.2, h.2⟩
theorem fold_text {w : Wld} (hf : w.fine) (ho : w.okW = true) : ∃ k, 1 ≤ k ∧ foldW 0 (zeroW, 0) (linesC w.text) = .inl (w, k) := by
  obtain ⟨h1, h2, h3, h4⟩ := okW_parts ho
  refine ⟨lastK 1 w.rows, ?_, ?_⟩
  · have hc := chain_all hf h4
    generalize w.rows = rs at hc
    have : ∀ (rs : List Rw) (last : Nat), chainR last rs → 1 ≤ last → 1 ≤ lastK last rs := by
      intro rs
      induction rs with
      | nil => exact fun _ _ h => h
      | cons r rs ih => exact fun last h _ => ih r.1 h.2 (by have := h.1.1; omega)
    exact this rs 1 hc (Nat.le_refl _)
  · rw [lines_text hf.seed]
    unfold foldW
    rw [step_head h1 h2 h3 hf.seed hf.s32]
    simp only
    rw [fold_rows _ _ _ _ (chain_all hf h4), add_all w hf.leg]
theorem numsO_some : ∀ {rest : List By} {l : List Int}, numsO rest = some l → l.all okN = true ∧ rest = l.map itB
  | [], l, h => by injection h with h; subst h; exact ⟨rfl, rfl⟩
  | s :: r, l, h => by
    have h' : (match numO s, numsO r with | some n, some l => some (n :: l) | _, _ => none) = some l := h
    cases h1 : numO s with
    | none => rw [h1] at h'; cases h'
    | some n =>
      cases h2 : numsO r with
      | none => rw [h1, h2] at h'; cases h'
      | some m =>
        rw [h1, h2] at h'
        injection h' with h'
        subst h'
        obtain ⟨a, b⟩ := numO_some h1
        obtain ⟨c, d⟩ := numsO_some h2
        exact ⟨by rw [List.all_cons, a, c]; rfl, by rw [List.map_cons, b, d]⟩
theorem join_nums : ∀ (l : List Int) (a : By), joinC 32 (a :: l.map itB) = a ++ numsT l
  | [], a => by show a = a ++ []; rw [List.append_nil]
  | n :: l, a => by
    show a ++ 32 :: joinC 32 (itB n :: l.map itB) = a ++ 32 :: (itB n ++ numsT l)
    rw [join_nums l]
theorem rowN_some {f : By} {k : Nat} (h : rowN f = k) (h1 : 1 ≤ k) : f = wordN k ∧ k ≤ 10 := by
  subst h
  unfold rowN at h1 ⊢
  repeat' split
  all_goals first | (rename_i e; exact ⟨e, by omega⟩) | skip
  all_goals (exfalso; simp_all)
theorem follows_row {k last : Nat} (h : followsN k last = true) : 1 ≤ k ∧ (k = 1 → last = 0) ∧ (2 ≤ k → 1 ≤ last) := by
  unfold followsN at h
  split at h
  · exact ⟨by omega, fun _ => of_decide_eq_true h, by omega⟩
  · split at h
    · have := of_decide_eq_true h; exact ⟨by omega, by omega, by omega⟩
    · split at h
      · have := of_decide_eq_true h; exact ⟨by omega, by omega, by omega⟩
      · split at h
        · have := of_decide_eq_true h; exact ⟨by omega, by omega, by omega⟩
        · have := of_decide_eq_true h; exact ⟨by omega, by omega, by omega⟩
theorem step_some {w w' : Wld} {last k : Nat} {t : By} (h : stepW (w, last) t = some (w', k)) (hl : 1 ≤ last) :
    ∃ l : List Int, 2 ≤ k ∧ k ≤ 10 ∧ l.all okN = true ∧ formR k l = true ∧ followsN k last = true ∧ t = rowT (k, l) ∧ w' = addR w (k, l) := by
  unfold stepW at h
  split at h
  · cases h
  · rename_i a ha
    split at h
    · cases h
    · rename_i f rest hs
      split at h
      · rename_i hf
        simp only at hf
        obtain ⟨q1, q2, q3⟩ := follows_row hf
        have hk2 : 2 ≤ rowN f := by
          rcases Nat.lt_or_ge (rowN f) 2 with h2 | h2
          · have := q2 (by omega); omega
          · exact h2
        obtain ⟨ef, h10⟩ := rowN_some rfl q1
        unfold readR at h
        rw [if_neg (by omega)] at h
        cases hn : numsO rest with
        | none => rw [hn] at h; cases h
        | some l =>
          rw [hn] at h
          simp only at h
          split at h
          · rename_i hfo
            obtain ⟨ho, er⟩ := numsO_some hn
            injection h with h
            injection h with h1 h2
            subst h2
            refine ⟨l, hk2, h10, ho, hfo, hf, ?_, h1.symm⟩
            rw [cutNl_some ha]
            have := join_split 32 a
            rw [hs, er, join_nums] at this
            rw [← this]
            show f ++ numsT l ++ [10] = wordN (rowN f) ++ numsT l ++ [10]
            rw [← ef]
          · cases h
      · cases h
structure Inv (last : Nat) (w : Wld) : Prop where
  leg : w.base.length = w.leg.length
  lin : ∀ x ∈ w.lines, x.offs.length = x.legs.length + 1
  t3 : last < 3 → w.tiers = []
  t4 : last < 4 → w.lines = []
  t7 : last < 7 → w.orders = []
  t8 : last < 8 → w.ents = []
  t9 : last < 9 → w.secs = []
  t10 : last < 10 → w.faults = []
  r4 : last = 4 → ∃ ls y, w.lines = ls ++ [y] ∧ y.rules = [] ∧ y.off = []
  r5 : last = 5 → ∃ ls y, w.lines = ls ++ [y] ∧ y.off = []
  r6 : last = 6 → ∃ ls y, w.lines = ls ++ [y]
theorem len2 {l : List Int} (h : l.length = 2) : l = [nat_ l 0, nat_ l 1] := by
  match l, h with | [a, b], _ => rfl
theorem len3 {l : List Int} (h : l.length = 3) : l = [nat_ l 0, nat_ l 1, nat_ l 2] := by
  match l, h with | [a, b, c], _ => rfl
theorem len1 {l : List Int} (h : l.length = 1) : l = [nat_ l 0] := by
  match l, h with | [a], _ => rfl
theorem len4 {l : List Int} (h : l.length = 4) : l = [nat_ l 0, nat_ l 1, nat_ l 2, nat_ l 3] := by
  match l, h with | [a, b, c, d], _ => rfl
theorem len8 {l : List Int} (h : l.length = 8) : l = [nat_ l 0, nat_ l 1, nat_ l 2, nat_ l 3, nat_ l 4, nat_ l 5, nat_ l 6, nat_ l 7] := by
  match l, h with | [a, b, c, d, e, f, g, i], _ => rfl
theorem len10 {l : List Int} (h : 10 ≤ l.length) : l = [nat_ l 0, nat_ l 1, nat_ l 2, nat_ l 3, nat_ l 4, nat_ l 5, nat_ l 6, nat_ l 7, nat_ l 8, nat_ l 9] ++ l.drop 10 := by
  match l, h with
  | a :: b :: c :: d :: e :: f :: g :: i :: j :: k :: r, _ => rfl
  | [], h | [_], h | [_, _], h | [_, _, _], h | [_, _, _, _], h | [_, _, _, _, _], h | [_, _, _, _, _, _], h | [_, _, _, _, _, _, _], h | [_, _, _, _, _, _, _, _], h | [_, _, _, _, _, _, _, _, _], h => simp at h
theorem lenL {l : List Int} (h : 3 ≤ l.length) : l = [nat_ l 0, nat_ l 1, nat_ l 2] ++ l.drop 3 := by
  match l, h with
  | a :: b :: c :: r, _ => rfl
  | [], h | [_], h | [_, _], h => simp at h
theorem form_of {k : Nat} {l : List Int} (h : formR k l = true) :
    (k = 2 ∨ k = 3 ∨ k = 6) ∧ l.length = 2 ∨ k = 4 ∧ (3 ≤ l.length ∧ 1 ≤ nat_ l 2 ∧ nat_ l 2 ≤ (l.length : Int) ∧ (l.length : Int) = 2 + 2 * nat_ l 2) ∨ k = 5 ∧ l.length = 3 ∨ k = 7 ∧ (10 ≤ l.length ∧ (nat_ l 8 = 0 ∨ nat_ l 8 = 1)) ∨ k = 8 ∧ l.length = 8 ∨ k = 9 ∧ l.length = 1 ∨ k = 10 ∧ l.length = 4 := by
  unfold formR at h
  split at h
  · rename_i h1; exact .inl ⟨h1, of_decide_eq_true h⟩
  · split at h
    · rename_i h1; exact .inr (.inl ⟨h1, of_decide_eq_true h⟩)
    · split at h
      · rename_i h1; exact .inr (.inr (.inl ⟨h1, of_decide_eq_true h⟩))
      · split at h
        · rename_i h1; exact .inr (.inr (.inr (.inl ⟨h1, of_decide_eq_true h⟩)))
        · split at h
          · rename_i h1; exact .inr (.inr (.inr (.inr (.inl ⟨h1, of_decide_eq_true h⟩))))
          · split at h
            · rename_i h1; exact .inr (.inr (.inr (.inr (.inr (.inl ⟨h1, of_decide_eq_true h⟩)))))
            · split at h
              · rename_i h1; exact .inr (.inr (.inr (.inr (.inr (.inr ⟨h1, of_decide_eq_true h⟩)))))
              · cases h
theorem flag_of {n : Int} (h : n = 0 ∨ n = 1) : flagI (decide (n = 1)) = n := by rcases h with rfl | rfl <;> rfl
theorem rows_add {w : Wld} {last k : Nat} {l : List Int} (hI : Inv last w) (h1 : 1 ≤ last) (hf : formR k l = true) (hfo : followsN k last = true) :
    (addR w (k, l)).rows = w.rows ++ [(k, l)] ∧ Inv k (addR w (k, l)) := by
  obtain ⟨eleg, elin, t3, t4, t7, t8, t9, t10, r4, r5, r6⟩ := hI
  rcases form_of hf with ⟨hk, hl⟩ | ⟨rfl, hl0, hl1, hl2, hl3⟩ | ⟨rfl, hl⟩ | ⟨rfl, hl, h8⟩ | ⟨rfl, hl⟩ | ⟨rfl, hl⟩ | ⟨rfl, hl⟩
  · rcases hk with rfl | rfl | rfl
    · have hlast : last ≤ 2 := by
        unfold followsN at hfo
        rw [if_neg (by omega), if_neg (by omega), if_neg (by omega), if_neg (by omega)] at hfo
        exact (of_decide_eq_true hfo).2.2
      have e : addR w (2, l) = { w with base := w.base ++ [nat_ l 0], leg := w.leg ++ [nat_ l 1] } := rfl
      rw [e]
      refine ⟨?_, ⟨by simp [eleg], elin, fun _ => t3 (by omega), fun _ => t4 (by omega), fun _ => t7 (by omega), fun _ => t8 (by omega), fun _ => t9 (by omega), fun _ => t10 (by omega), by omega, by omega, by omega⟩⟩
      unfold Wld.rows
      simp only
      rw [t3 (by omega), t4 (by omega), t7 (by omega), t8 (by omega), t9 (by omega), t10 (by omega), List.zip_append eleg]
      conv => rhs; rw [len2 hl]
      simp [clsR]
    · have hlast : last ≤ 3 := by
        unfold followsN at hfo
        rw [if_neg (by omega), if_neg (by omega), if_neg (by omega), if_neg (by omega)] at hfo
        exact (of_decide_eq_true hfo).2.2
      have e : addR w (3, l) = { w with tiers := w.tiers ++ [⟨nat_ l 0, nat_ l 1⟩] } := rfl
      rw [e]
      refine ⟨?_, ⟨eleg, elin, by omega, fun _ => t4 (by omega), fun _ => t7 (by omega), fun _ => t8 (by omega), fun _ => t9 (by omega), fun _ => t10 (by omega), by omega, by omega, by omega⟩⟩
      unfold Wld.rows
      simp only
      rw [t4 (by omega), t7 (by omega), t8 (by omega), t9 (by omega), t10 (by omega)]
      conv => rhs; rw [len2 hl]
      simp [tieR]
    · have hlast : 4 ≤ last ∧ last ≤ 6 := by
        unfold followsN at hfo
        rw [if_neg (by omega), if_neg (by omega), if_neg (by omega), if_pos rfl] at hfo
        exact of_decide_eq_true hfo
      obtain ⟨ls, y, hy⟩ : ∃ ls y, w.lines = ls ++ [y] := by
        have : last = 4 ∨ last = 5 ∨ last = 6 := by omega
        rcases this with h | h | h
        · obtain ⟨ls, y, e, _⟩ := r4 h; exact ⟨ls, y, e⟩
        · obtain ⟨ls, y, e, _⟩ := r5 h; exact ⟨ls, y, e⟩
        · exact r6 h
      have e : addR w (6, l) = { w with lines := ls ++ [{ y with off := y.off ++ [⟨nat_ l 0, nat_ l 1⟩] }] } := by
        show ({ w with lines := lastL (fun x => { x with off := x.off ++ [⟨nat_ l 0, nat_ l 1⟩] }) w.lines } : Wld) = _
        rw [hy, lastL_snoc]
      rw [e]
      refine ⟨?_, ⟨eleg, fun x hx => ?_, by omega, by omega, fun _ => t7 (by omega), fun _ => t8 (by omega), fun _ => t9 (by omega), fun _ => t10 (by omega), by omega, by omega, fun _ => ⟨ls, _, rfl⟩⟩⟩
      · unfold Wld.rows
        simp only
        rw [t7 (by omega), t8 (by omega), t9 (by omega), t10 (by omega), hy]
        conv => rhs; rw [len2 hl]
        simp [linR, lineR, gapR]
      · rcases List.mem_append.1 hx with hx | hx
        · exact elin x (by rw [hy]; exact List.mem_append.2 (.inl hx))
        · rw [List.mem_singleton] at hx
          subst hx
          exact elin y (by rw [hy]; exact List.mem_append.2 (.inr (List.mem_singleton_self _)))
  · have hlast : 1 ≤ last ∧ last ≤ 6 := by
      unfold followsN at hfo
      rw [if_neg (by omega), if_pos rfl] at hfo
      exact of_decide_eq_true hfo
    have e : addR w (4, l) = { w with lines := w.lines ++ [⟨(l.drop 3).take (nat_ l 2).toNat, (l.drop 3).drop (nat_ l 2).toNat, nat_ l 0, nat_ l 1, [], []⟩] } := rfl
    have hd : (l.drop 3).length = l.length - 3 := List.length_drop ..
    have ht : ((l.drop 3).take (nat_ l 2).toNat).length = (nat_ l 2).toNat := by rw [List.length_take, hd]; omega
    rw [e]
    refine ⟨?_, ⟨eleg, fun x hx => ?_, by omega, by omega, fun _ => t7 (by omega), fun _ => t8 (by omega), fun _ => t9 (by omega), fun _ => t10 (by omega), fun _ => ⟨w.lines, _, rfl, rfl, rfl⟩, by omega, by omega⟩⟩
    · unfold Wld.rows
      simp only
      rw [t7 (by omega), t8 (by omega), t9 (by omega), t10 (by omega), List.flatMap_append, List.flatMap_singleton]
      have : linR ⟨(l.drop 3).take (nat_ l 2).toNat, (l.drop 3).drop (nat_ l 2).toNat, nat_ l 0, nat_ l 1, [], []⟩ = [(4, l)] := by
        show [((4, [nat_ l 0, nat_ l 1, (((l.drop 3).take (nat_ l 2).toNat).length : Int)] ++ ((l.drop 3).take (nat_ l 2).toNat ++ (l.drop 3).drop (nat_ l 2).toNat)) : Rw)] = _
        rw [ht, List.take_append_drop, show (((nat_ l 2).toNat : Nat) : Int) = nat_ l 2 by omega, ← lenL hl0]
      rw [this]
      simp
    · rcases List.mem_append.1 hx with hx | hx
      · exact elin x hx
      · rw [List.mem_singleton] at hx
        subst hx
        show ((l.drop 3).take (nat_ l 2).toNat).length = ((l.drop 3).drop (nat_ l 2).toNat).length + 1
        rw [ht, List.length_drop, hd]
        omega
  · have hlast : last = 4 ∨ last = 5 := by
      unfold followsN at hfo
      rw [if_neg (by omega), if_neg (by omega), if_pos rfl] at hfo
      exact of_decide_eq_true hfo
    obtain ⟨ls, y, hy, hyo⟩ : ∃ ls y, w.lines = ls ++ [y] ∧ y.off = [] := by
      rcases hlast with h | h
      · obtain ⟨ls, y, e, _, e2⟩ := r4 h; exact ⟨ls, y, e, e2⟩
      · exact r5 h
    have e : addR w (5, l) = { w with lines := ls ++ [{ y with rules := y.rules ++ [⟨nat_ l 0, nat_ l 1, nat_ l 2⟩] }] } := by
      show ({ w with lines := lastL (fun x => { x with rules := x.rules ++ [⟨nat_ l 0, nat_ l 1, nat_ l 2⟩] }) w.lines } : Wld) = _
      rw [hy, lastL_snoc]
    rw [e]
    refine ⟨?_, ⟨eleg, fun x hx => ?_, by omega, by omega, fun _ => t7 (by omega), fun _ => t8 (by omega), fun _ => t9 (by omega), fun _ => t10 (by omega), by omega, fun _ => ⟨ls, _, rfl, hyo⟩, by omega⟩⟩
    · unfold Wld.rows
      simp only
      rw [t7 (by omega), t8 (by omega), t9 (by omega), t10 (by omega), hy]
      conv => rhs; rw [len3 hl]
      simp [linR, lineR, ruleR, hyo]
    · rcases List.mem_append.1 hx with hx | hx
      · exact elin x (by rw [hy]; exact List.mem_append.2 (.inl hx))
      · rw [List.mem_singleton] at hx
        subst hx
        exact elin y (by rw [hy]; exact List.mem_append.2 (.inr (List.mem_singleton_self _)))
  all_goals
    have hlast : ∀ k, k = 7 ∨ k = 8 ∨ k = 9 ∨ k = 10 → followsN k last = true → last ≤ k := by
      intro k hk hfo
      unfold followsN at hfo
      rw [if_neg (by omega), if_neg (by omega), if_neg (by omega), if_neg (by omega)] at hfo
      exact (of_decide_eq_true hfo).2.2
    replace hlast := hlast _ (by decide) hfo
  · have e : addR w (7, l) = { w with orders := w.orders ++ [⟨nat_ l 0, nat_ l 1, nat_ l 2, nat_ l 3, nat_ l 4, nat_ l 5, nat_ l 6, nat_ l 7, l.drop 10, decide (nat_ l 8 = 1), nat_ l 9⟩] } := rfl
    rw [e]
    refine ⟨?_, ⟨eleg, elin, by omega, by omega, by omega, fun _ => t8 (by omega), fun _ => t9 (by omega), fun _ => t10 (by omega), by omega, by omega, by omega⟩⟩
    unfold Wld.rows
    simp only
    rw [t8 (by omega), t9 (by omega), t10 (by omega), List.map_append]
    have : odrR ⟨nat_ l 0, nat_ l 1, nat_ l 2, nat_ l 3, nat_ l 4, nat_ l 5, nat_ l 6, nat_ l 7, l.drop 10, decide (nat_ l 8 = 1), nat_ l 9⟩ = (7, l) := by
      show ((7, [nat_ l 0, nat_ l 1, nat_ l 2, nat_ l 3, nat_ l 4, nat_ l 5, nat_ l 6, nat_ l 7, flagI (decide (nat_ l 8 = 1)), nat_ l 9] ++ l.drop 10) : Rw) = _
      rw [flag_of h8, ← len10 hl]
    rw [List.map_singleton, this]
    simp
  · have e : addR w (8, l) = { w with ents := w.ents ++ [⟨nat_ l 0, nat_ l 1, nat_ l 2, nat_ l 3, nat_ l 4, nat_ l 5, nat_ l 6, nat_ l 7⟩] } := rfl
    rw [e]
    refine ⟨?_, ⟨eleg, elin, by omega, by omega, by omega, by omega, fun _ => t9 (by omega), fun _ => t10 (by omega), by omega, by omega, by omega⟩⟩
    unfold Wld.rows
    simp only
    rw [t9 (by omega), t10 (by omega)]
    conv => rhs; rw [len8 hl]
    simp [entR]
  · have e : addR w (9, l) = { w with secs := w.secs ++ [nat_ l 0] } := rfl
    rw [e]
    refine ⟨?_, ⟨eleg, elin, by omega, by omega, by omega, by omega, by omega, fun _ => t10 (by omega), by omega, by omega, by omega⟩⟩
    unfold Wld.rows
    simp only
    rw [t10 (by omega)]
    conv => rhs; rw [len1 hl]
    simp [secR]
  · have e : addR w (10, l) = { w with faults := w.faults ++ [⟨nat_ l 0, nat_ l 1, nat_ l 2, nat_ l 3⟩] } := rfl
    rw [e]
    refine ⟨?_, ⟨eleg, elin, by omega, by omega, by omega, by omega, by omega, by omega, by omega, by omega, by omega⟩⟩
    unfold Wld.rows
    simp only
    conv => rhs; rw [len4 hl]
    simp [slpR]
theorem addR_head (w : Wld) (r : Rw) : (addR w r).people = w.people ∧ (addR w r).covers = w.covers ∧ (addR w r).offs = w.offs ∧ (addR w r).seed = w.seed := by
  unfold addR
  simp only
  repeat' split
  all_goals exact ⟨rfl, rfl, rfl, rfl⟩
theorem headT_eq {w x : Wld} (h : x.people = w.people ∧ x.covers = w.covers ∧ x.offs = w.offs ∧ x.seed = w.seed) : headT x = headT w := by
  unfold headT
  rw [h.1, h.2.1, h.2.2.1, h.2.2.2]
theorem fold_some : ∀ (ts : List By) (n : Nat) (w w' : Wld) (last k : Nat), foldW n (w, last) ts = .inl (w', k) → 1 ≤ last → Inv last w → w.rows.all okR = true →
    w'.text = w.text ++ ts.flatten ∧ Inv k w' ∧ w'.rows.all okR = true ∧ 1 ≤ k ∧ (w'.people = w.people ∧ w'.covers = w.covers ∧ w'.offs = w.offs ∧ w'.seed = w.seed)
  | [], n, w, w', last, k, h, h1, hI, ho => by
    injection h with h
    injection h with e1 e2
    subst e1; subst e2
    exact ⟨by simp, hI, ho, h1, rfl, rfl, rfl, rfl⟩
  | t :: ts, n, w, w', last, k, h, h1, hI, ho => by
    have h' : (match stepW (w, last) t with | some st' => foldW (n + 1) st' ts | none => .inr (n + 1)) = .inl (w', k) := h
    cases hs : stepW (w, last) t with
    | none => rw [hs] at h'; cases h'
    | some st =>
      obtain ⟨w1, k1⟩ := st
      rw [hs] at h'
      simp only at h'
      obtain ⟨l, k2, k10, hok, hf, hfo, rfl, rfl⟩ := step_some hs h1
      obtain ⟨e1, I1⟩ := rows_add hI h1 hf hfo
      have ho1 : (addR w (k1, l)).rows.all okR = true := by
        rw [e1, List.all_append, ho]
        simp only [List.all_cons, List.all_nil, Bool.and_true, Bool.true_and]
        exact hok
      obtain ⟨q1, q2, q3, q4, q5⟩ := fold_some ts (n + 1) _ w' k1 k h' (by omega) I1 ho1
      have hh := addR_head w (k1, l)
      refine ⟨?_, q2, q3, q4, q5.1.trans hh.1, q5.2.1.trans hh.2.1, q5.2.2.1.trans hh.2.2.1, q5.2.2.2.trans hh.2.2.2⟩
      rw [q1]
      show headT (addR w (k1, l)) ++ (addR w (k1, l)).rows.flatMap rowT ++ ts.flatten = headT w ++ w.rows.flatMap rowT ++ (rowT (k1, l) ++ ts.flatten)
      rw [e1, headT_eq hh]
      simp
theorem hexV_some {c : UInt8} {x : Nat} (h : hexV c = some x) : hexC x = c ∧ x < 16 := by
  unfold hexV at h
  split at h
  · rename_i h1
    injection h with h
    subst h
    refine ⟨?_, by omega⟩
    unfold hexC
    rw [if_pos (by omega), show 48 + (c.toNat - 48) = c.toNat by omega]
    simp
  · split at h
    · rename_i h1
      injection h with h
      subst h
      refine ⟨?_, by omega⟩
      unfold hexC
      rw [if_neg (by omega), show 87 + (c.toNat - 87) = c.toNat by omega]
      simp
    · cases h
theorem pairs_some : ∀ {s : By} {l : List Nat}, pairsO s = some l → hexT l = s ∧ ∀ x ∈ l, x < 256
  | [], l, h => by injection h with h; subst h; exact ⟨rfl, fun x hx => by cases hx⟩
  | [_], l, h => by cases h
  | a :: b :: r, l, h => by
    have h' : (match hexV a, hexV b, pairsO r with | some x, some y, some l => some ((16 * x + y) :: l) | _, _, _ => none) = some l := h
    cases ha : hexV a with
    | none => rw [ha] at h'; cases h'
    | some x =>
      cases hb : hexV b with
      | none => rw [ha, hb] at h'; cases h'
      | some y =>
        cases hr : pairsO r with
        | none => rw [ha, hb, hr] at h'; cases h'
        | some m =>
          rw [ha, hb, hr] at h'
          injection h' with h'
          subst h'
          obtain ⟨e1, x16⟩ := hexV_some ha
          obtain ⟨e2, y16⟩ := hexV_some hb
          obtain ⟨e3, hm⟩ := pairs_some hr
          refine ⟨?_, fun z hz => ?_⟩
          · show [hexC ((16 * x + y) / 16), hexC ((16 * x + y) % 16)] ++ hexT m = _
            rw [show (16 * x + y) / 16 = x by omega, show (16 * x + y) % 16 = y by omega, e1, e2, e3]; rfl
          · rcases List.mem_cons.1 hz with rfl | hz
            · omega
            · exact hm z hz
theorem seed_some {s : By} {l : List Nat} (h : seedO s = some l) : hexT l = s ∧ (∀ x ∈ l, x < 256) ∧ l.length = 32 := by
  unfold seedO at h
  split at h
  · rename_i h64
    obtain ⟨e, hx⟩ := pairs_some h
    refine ⟨e, hx, ?_⟩
    have := hexT_len l
    rw [e, h64] at this
    omega
  · cases h
theorem step_first {w : Wld} {k : Nat} {t : By} (h : stepW (zeroW, 0) t = some (w, k)) :
    k = 1 ∧ t = w.text ∧ Inv 1 w ∧ w.rows = [] ∧ okN w.people = true ∧ okN w.covers = true ∧ okN w.offs = true ∧ (∀ d ∈ w.seed, d < 256) ∧ w.seed.length = 32 := by
  unfold stepW at h
  split at h
  · cases h
  · rename_i a ha
    split at h
    · cases h
    · rename_i f rest hs
      split at h
      · rename_i hf
        simp only at hf
        obtain ⟨q1, q2, q3⟩ := follows_row hf
        have hk1 : rowN f = 1 := by
          rcases Nat.lt_or_ge (rowN f) 2 with h2 | h2
          · omega
          · have := q3 h2; omega
        obtain ⟨ef, -⟩ := rowN_some hk1 (Nat.le_refl _)
        rw [hk1] at h
        unfold readR at h
        rw [if_pos rfl] at h
        match rest, hs, h with
        | [x, y, z, d], hs, h =>
          simp only at h
          cases h1 : numO x with
          | none => rw [h1] at h; cases h
          | some a1 =>
            cases h2 : numO y with
            | none => rw [h1, h2] at h; cases h
            | some a2 =>
              cases h3 : numO z with
              | none => rw [h1, h2, h3] at h; cases h
              | some a3 =>
                cases h4 : seedO d with
                | none => rw [h1, h2, h3, h4] at h; cases h
                | some s =>
                  rw [h1, h2, h3, h4] at h
                  injection h with h
                  injection h with e1 e2
                  subst e1; subst e2
                  obtain ⟨o1, b1⟩ := numO_some h1
                  obtain ⟨o2, b2⟩ := numO_some h2
                  obtain ⟨o3, b3⟩ := numO_some h3
                  obtain ⟨b4, s1, s2⟩ := seed_some h4
                  refine ⟨rfl, ?_, ⟨rfl, fun x hx => (by cases hx), fun _ => rfl, fun _ => rfl, fun _ => rfl, fun _ => rfl, fun _ => rfl, fun _ => rfl, by omega, by omega, by omega⟩, rfl, o1, o2, o3, s1, s2⟩
                  have hj := join_split 32 a
                  rw [hs] at hj
                  rw [cutNl_some ha, ← hj, ef, ← b1, ← b2, ← b3, ← b4]
                  show wWorld ++ 32 :: (itB a1 ++ 32 :: (itB a2 ++ 32 :: (itB a3 ++ 32 :: hexT s))) ++ [10] = wWorld ++ ((32 :: itB a1) ++ ((32 :: itB a2) ++ ((32 :: itB a3) ++ []))) ++ (32 :: hexT s) ++ [10] ++ []
                  simp
        | [], hs, h | [_], hs, h | [_, _], hs, h | [_, _, _], hs, h => cases h
        | _ :: _ :: _ :: _ :: _ :: _, hs, h => cases h
      · cases h
theorem text_fold {src : By} {w : Wld} {k : Nat} (h : foldW 0 (zeroW, 0) (linesC src) = .inl (w, k)) (hk : k ≠ 0) : w.text = src ∧ w.okW = true ∧ w.fine := by
  have hfl := linesC_flat src
  cases hl : linesC src with
  | nil => rw [hl] at h; injection h with h; injection h with h1 h2; exact absurd h2.symm hk
  | cons t ts =>
    rw [hl] at h hfl
    have h' : (match stepW (zeroW, 0) t with | some st' => foldW (0 + 1) st' ts | none => .inr (0 + 1)) = .inl (w, k) := h
    cases hs : stepW (zeroW, 0) t with
    | none => rw [hs] at h'; cases h'
    | some st =>
      obtain ⟨w1, k1⟩ := st
      rw [hs] at h'
      simp only at h'
      obtain ⟨rfl, e1, I1, er, p1, p2, p3, p4, p5⟩ := step_first hs
      obtain ⟨q1, q2, q3, q4, q5⟩ := fold_some ts _ w1 w 1 k h' (Nat.le_refl _) I1 (by rw [er]; rfl)
      refine ⟨?_, ?_, ⟨q2.leg, q2.lin, by rw [q5.2.2.2]; exact p4, by rw [q5.2.2.2]; exact p5⟩⟩
      · rw [q1, ← e1, ← hfl]; rfl
      · unfold Wld.okW
        rw [q5.1, q5.2.1, q5.2.2.1, p1, p2, p3, q3]
        rfl
def badL (t : By) : Prop := (∀ st : Wld × Nat, stepW st t = none) ∧ ∃ a, t = a ++ [10] ∧ ∀ x ∈ a, x ≠ 10
end Go.Proofs.YtmbopkcmbiommaaGreatDoor
