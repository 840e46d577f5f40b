/- The reference's readLine: the first line; what it makes of any line; walked. -/
import Derived.Test.YtmbopkcmbiommaaGreatDoorRbt
import Derived.Test.YtmbopkcmbiommaaGreatDoorRbu
import Derived.Test.YtmbopkcmbiommaaGreatDoorRbv
import Derived.Test.YtmbopkcmbiommaaGreatDoorRbi
import Derived.Test.YtmbopkcmbiommaaGreatDoorRbd
set_option maxRecDepth 1000000
set_option maxHeartbeats 16000000
namespace Go.Proofs.YtmbopkcmbiommaaGreatDoor
open Go Go.RowKit
def LineSh (s : WS) (o : Option Wld) (W : World) (e : Ending) (w' : World) : Prop := ∃ (X : Array Value) (ok : Bool), e = .returned (.tuple #[.agg X, .bool ok]) ∧ X.size = 43 ∧ (∀ v ∈ X.toList, v.oneCell' = true) ∧ (match o with | some x => X = (s.cl x).toArray ∧ ok = true ∧ x.seed.length = 32 ∧ ∀ d ∈ x.seed, d < 256 | none => ok = false) ∧ Below W.heap.size W w'
theorem LineS.shape {s : WS} {o : Option Wld} {W w' : World} {e : Ending} (h : LineS s o W e w') : LineSh s o W e w' := by
  obtain ⟨h, b⟩ := h
  cases o with
  | some x => exact ⟨_, _, h.1, wsCl_size h.2.1, ws_cell, ⟨rfl, rfl, h.2⟩, b⟩
  | none =>
    obtain ⟨X, h1, h2, h3⟩ := h
    exact ⟨X, false, h3, h1, h2, rfl, b⟩
theorem world_head {x x' : Wld} {l : List By} (h : readR x 1 l = some x') : ∃ a b c d, x' = { x with people := a, covers := b, offs := c, seed := d } := by
  match l, h with
  | [], h => cases h
  | [_], h => cases h
  | [_, _], h => cases h
  | [_, _, _], h => cases h
  | [s0, s1, s2, s3], h =>
    have hr : readR x 1 [s0, s1, s2, s3] = (match numO s0, numO s1, numO s2, seedO s3 with
      | some x1, some y, some z, some s => some { x with people := x1, covers := y, offs := z, seed := s }
      | _, _, _, _ => none) := rfl
    rw [hr] at h
    split at h
    · injection h with h
      exact ⟨_, _, _, _, h.symm⟩
    · cases h
  | _ :: _ :: _ :: _ :: _ :: _, h => cases h
theorem WK.head {w : World} {B N : Nat} {s : WS} {x : Wld} (h : WK w B N s x) {a b c : Int} {d : List Nat} : WK w B N s { x with people := a, covers := b, offs := c, seed := d } := ⟨h.rl, h.rb, h.rg, h.rt, h.ro, h.lo, h.re, h.rs, h.rf⟩
theorem rp_line1 (N0 : Nat) (s : WS) (x : Wld) (A : Option Addr) (c : Nat) (rest : List ByteArray) (W : World) (hk : WK W W.heap.size N0 s x) (hsd : x.seed.length = 32) (hA : Rd W W.heap.size 1 A (rest.length + 1) (strs (⟨#[119, 111, 114, 108, 100]⟩ :: rest))) (hcap : rest.length + 1 ≤ c) (hl : ∀ t ∈ rest, t.size ≤ 1000000) :
    Calls Tryz.prog 32 #[.agg (s.cl x).toArray, .slice A (rest.length + 1) c] W (LineR N0 (readR x 1 (bys rest)) W) := by
  have hXs : (s.cl x).toArray.size = 43 := wsCl_size hsd
  have hZs : (nilWS.cl zeroW).toArray.size = 43 := wsCl_size rfl
  have hA2 := hA
  obtain ⟨lb, off, rfl, hlb, hc⟩ := hA.2 (by omega)
  have c0W : W.cell? ⟨lb, off, none⟩ = some (.string ⟨#[119, 111, 114, 108, 100]⟩) := hc 0 _ rfl
  clear hc hA
  have BX := Blk.new W 35 (s.cl x).toArray _ rfl
  have hb := bAl (bRefl W) (.cells (s.cl x).toArray 35)
  have hw1 : (W.alloc (.cells (s.cl x).toArray 35)).heap.size = W.heap.size + 1 := by simp
  have BR := Blk.new (W.alloc (.cells (s.cl x).toArray 35)) 35 (nilWS.cl zeroW).toArray _ hw1.symm
  replace BX := BX.alloc (.cells (nilWS.cl zeroW).toArray 35)
  replace hb := bAl hb (.cells (nilWS.cl zeroW).toArray 35)
  have qw : Hid (∀ w, Below W.heap.size W w → Calls Tryz.prog 58 #[.agg (s.cl x).toArray, .slice (some ⟨lb, off, none⟩) (rest.length + 1) c] w (LineS s (readR x 1 (bys rest)) w)) := Lib.hid (fun w b => rp_world s x _ c (⟨#[119, 111, 114, 108, 100]⟩ :: rest) w hsd ((hA2.below b).more b.size) hcap (fun t ht => by
    rcases List.mem_cons.1 ht with rfl | ht
    · exact Nat.le_of_ble_eq_true rfl
    · exact hl t ht))
  have hwh : Hid (∀ x', readR x 1 (bys rest) = some x' → ∃ a b c d, x' = { x with people := a, covers := b, offs := c, seed := d }) := Lib.hid (fun x' h => world_head h)
  obtain ⟨o, ho⟩ : ∃ o, Hid (readR x 1 (bys rest) = o) := ⟨_, Lib.hid rfl⟩
  rw [ho.out] at qw hwh ⊢
  obtain ⟨X, hX⟩ : ∃ X, Hid ((s.cl x).toArray = X) := ⟨_, Lib.hid rfl⟩
  rw [hX.out] at hXs BX BR hb hw1 qw ⊢
  clear hA2
  go_enter Tryz.func32, Tryz.ntmps32
  go_upto_region 1 with fail
  refine (show Code.wp _ _ _ _ ((W.alloc (.cells X 35)).alloc (.cells (nilWS.cl zeroW).toArray 35)) from ?_)
  generalize (nilWS.cl zeroW).toArray = ZW at *
  generalize (W.alloc (.cells X 35)).alloc (.cells ZW 35) = w1 at *
  clear hw1
  have c0 := (hb.cell (p := ⟨lb, off, none⟩) hlb).trans c0W
  have j2 : (0 : Int) ≤ (rest.length : Int) + 1 := by omega
  have hH1 := BR.lt
  have q := (qw.out w1 hb).mono (fun _ _ h => h.shape)
  clear qw
  go_upto_region 2 with fail
  apply wp_region_lit
  refine wpList_loadG (by rfl) (by rfl) (by rfl) (load_blk BX Tryz.underlying35 rfl (by rw [hXs]; exact world_info)) ?_
  simp only [Act.put]
  go_wp2_with fail
  (with_reducible refine q.mono ?_)
  rintro e w2 ⟨Y, ok, rfl, hYs, hY1, ho2, b2⟩
  replace ho2 := Lib.hid ho2
  dsimp only
  iterate 7 go_step
  have BR2 := BR.below b2 BR.lt
  refine wpList_storeG (by rfl) (by rfl) (by rfl) (by rfl) (store_whole BR2 (by rw [hYs]; exact world_info) (by rw [hZs, hYs]) hY1) ?_
  simp only [Act.put]
  have b9 := below_setRowP (bCall hb b2) (Nat.le_succ W.heap.size) Y
  have B9 := BR2.row Y
  have hfin : Hid (∀ w9, Below W.heap.size W w9 → LineR N0 o W (.returned (.tuple #[.agg Y, .bool ok])) w9) := Lib.hid (fun w9 bb => by
    have h := ho2.out
    cases o with
    | none =>
      obtain rfl : ok = false := h
      exact LineR.no rfl bb hYs hY1
    | some x' =>
      obtain ⟨rfl, rfl, h3, h4⟩ := h
      obtain ⟨a, b, d, y, rfl⟩ := hwh.out x' rfl
      exact LineR.yes rfl bb ((hk.below bb).more bb.size).head h3 h4)
  clear hk
  go_wp2_with fail
  exact line_leaves rfl rfl rfl hYs B9 (hfin.out _ b9) rfl
theorem word_is {w : ByteArray} {k : Nat} (h : rowN w.data.toList = k) (h1 : 1 ≤ k) : w = ⟨(wordN k).toArray⟩ ∧ k ≤ 10 := by
  obtain ⟨e, h10⟩ := rowN_is h h1
  exact ⟨ByteArray.ext (Array.toList_inj.1 e), h10⟩
theorem rp_readLine (N0 : Nat) (s : WS) (x : Wld) (A : Option Addr) (c : Nat) (f : ByteArray) (rest : List ByteArray) (W : World) (hf : 1 ≤ rowN f.data.toList) (hne : rowN f.data.toList = 5 ∨ rowN f.data.toList = 6 → x.lines ≠ []) (hk : WK W W.heap.size N0 s x) (hNW : N0 ≤ W.heap.size) (hsd : x.seed.length = 32) (hsb : ∀ d ∈ x.seed, d < 256) (hlim : x.lim 1000000) (hA : Rd W W.heap.size 1 A (rest.length + 1) (strs (f :: rest))) (hcap : rest.length + 1 ≤ c) (hl : ∀ t ∈ rest, t.size ≤ 1000000) (hn : rest.length ≤ 1000000) :
    Calls Tryz.prog 32 #[.agg (s.cl x).toArray, .slice A (rest.length + 1) c] W (LineR N0 (readR x (rowN f.data.toList) (bys rest)) W) := by
  obtain ⟨k, hkk⟩ : ∃ k, rowN f.data.toList = k := ⟨_, rfl⟩
  obtain ⟨e, h10⟩ := word_is hkk (by omega)
  rw [hkk] at hf hne ⊢
  clear hkk
  subst e
  have hk10 : k = 1 ∨ k = 2 ∨ k = 3 ∨ k = 4 ∨ k = 5 ∨ k = 6 ∨ k = 7 ∨ k = 8 ∨ k = 9 ∨ k = 10 := by omega
  rcases hk10 with rfl | rfl | rfl | rfl | rfl | rfl | rfl | rfl | rfl | rfl
  · exact rp_line1 N0 s x A c rest W hk hsd hA hcap hl
  · exact rp_line2 N0 s x A c rest W hk hNW hsd hsb hlim hA hcap hl hn
  · exact rp_line3 N0 s x A c rest W hk hNW hsd hsb hlim hA hcap hl hn
  · exact rp_line4 N0 s x A c rest W hk hNW hsd hsb hlim hA hcap hl hn
  · exact rp_line5 N0 s x A c rest W hk hNW hsd hsb hlim hA hcap hl hn (hne (.inl rfl))
  · exact rp_line6 N0 s x A c rest W hk hNW hsd hsb hlim hA hcap hl hn (hne (.inr rfl))
  · exact rp_line7 N0 s x A c rest W hk hNW hsd hsb hlim hA hcap hl hn
  · exact rp_line8 N0 s x A c rest W hk hNW hsd hsb hlim hA hcap hl hn
  · exact rp_line9 N0 s x A c rest W hk hNW hsd hsb hlim hA hcap hl hn
  · exact rp_line10 N0 s x A c rest W hk hNW hsd hsb hlim hA hcap hl hn
end Go.Proofs.YtmbopkcmbiommaaGreatDoor
namespace Go.Proofs.YtmbopkcmbiommaaGreatDoor
open Go
def stepP (st : Wld × Nat) (a : By) : Option (Wld × Nat) := match splitC 32 a with
  | [] => none
  | f :: rest => if followsN (rowN f) st.2 = true then (readR st.1 (rowN f) rest).map (fun w => (w, rowN f)) else none
theorem stepW_row (st : Wld × Nat) (a : By) : stepW st (a ++ [10]) = stepP st a := by
  unfold stepW stepP
  rw [cutNl_row]
  rfl
def refW : Nat → Wld × Nat → List By → (Wld × Nat) ⊕ Nat
  | _, st, [] => .inl st
  | n, st, [p] => if p = [] then .inl st else .inr (n + 1)
  | n, st, p :: q :: r => match stepP st p with
    | some st' => refW (n + 1) st' (q :: r)
    | none => .inr (n + 1)
theorem linesC_none : ∀ {a : By}, (∀ x ∈ a, x ≠ 10) → linesC a = if a = [] then [] else [a]
  | [], _ => rfl
  | x :: a, h => by
    conv => lhs; unfold linesC
    rw [if_neg (h x (List.mem_cons_self ..)), linesC_none (fun y hy => h y (List.mem_cons_of_mem _ hy))]
    cases a with
    | nil => rfl
    | cons y a => rfl
theorem cutNl_none {a : By} (h : ∀ x ∈ a, x ≠ 10) : cutNl a = none := by
  unfold cutNl
  rw [if_neg]
  intro e
  exact h 10 (List.mem_of_getLast? e) rfl
theorem refW_eq : ∀ (m : Nat) (s : By), s.length ≤ m → ∀ (n : Nat) (st : Wld × Nat), refW n st (splitC 10 s) = foldW n st (linesC s) := by
  intro m
  induction m with
  | zero =>
    intro s h n st
    have : s = [] := List.eq_nil_of_length_eq_zero (by omega)
    subst this
    rfl
  | succ m ih =>
    intro s h n st
    rcases byte_first 10 s with ⟨-, h2⟩ | ⟨a, b, rfl, h2, -⟩
    · rw [splitC_none h2, linesC_none h2]
      show (if s = [] then Sum.inl st else .inr (n + 1)) = _
      split
      · rfl
      · unfold foldW stepW
        rw [cutNl_none h2]
    · rw [splitC_cons h2, linesC_row h2]
      cases hb : splitC 10 b with
      | nil => exact absurd hb (splitC_ne 10 b)
      | cons q r =>
        have ih2 := fun n st => ih b (by simp at h; omega) n st
        rw [hb] at ih2
        show (match stepP st a with | some st' => refW (n + 1) st' (q :: r) | none => .inr (n + 1)) = (match stepW st (a ++ [10]) with | some st' => foldW (n + 1) st' (linesC b) | none => .inr (n + 1))
        rw [stepW_row]
        cases stepP st a with
        | none => rfl
        | some st' => exact ih2 _ _
end Go.Proofs.YtmbopkcmbiommaaGreatDoor
namespace Go.Proofs.YtmbopkcmbiommaaGreatDoor
open Go Go.RowKit
theorem lastL_len (f : Lin → Lin) (l : List Lin) : (lastL f l).length = l.length := by
  rcases List.eq_nil_or_concat l with rfl | ⟨p, y, rfl⟩
  · rfl
  · rw [List.concat_eq_append, lastL_snoc]; simp
theorem lastL_mem {f : Lin → Lin} {l : List Lin} {z : Lin} (h : z ∈ lastL f l) : z ∈ l ∨ ∃ y ∈ l, z = f y := by
  rcases List.eq_nil_or_concat l with rfl | ⟨p, y, rfl⟩
  · exact .inl h
  · rw [List.concat_eq_append, lastL_snoc] at h
    rw [List.concat_eq_append]
    rcases List.mem_append.1 h with h | h
    · exact .inl (List.mem_append.2 (.inl h))
    · exact .inr ⟨y, by simp, by simpa using h⟩
theorem Wld.lim.up {x : Wld} {m : Nat} (h : x.lim m) : x.lim (m + 1) :=
  ⟨Nat.le_succ_of_le h.lines, fun y hy => ⟨Nat.le_succ_of_le (h.line y hy).1, Nat.le_succ_of_le (h.line y hy).2⟩, Nat.le_succ_of_le h.base, Nat.le_succ_of_le h.leg, Nat.le_succ_of_le h.tiers, Nat.le_succ_of_le h.orders, Nat.le_succ_of_le h.ents, Nat.le_succ_of_le h.secs, Nat.le_succ_of_le h.faults⟩
theorem lim_add {x : Wld} {r : Rw} {m : Nat} (h : x.lim m) : (addR x r).lim (m + 1) := by
  have hu := h.up
  have h1 := h.lines
  have h2 := h.base
  have h3 := h.leg
  have h4 := h.tiers
  have h5 := h.orders
  have h6 := h.ents
  have h7 := h.secs
  have h8 := h.faults
  unfold addR
  simp only
  repeat' split
  · exact ⟨hu.lines, hu.line, by simp; omega, by simp; omega, hu.tiers, hu.orders, hu.ents, hu.secs, hu.faults⟩
  · exact ⟨hu.lines, hu.line, hu.base, hu.leg, by simp; omega, hu.orders, hu.ents, hu.secs, hu.faults⟩
  · refine ⟨by simp; omega, fun y hy => ?_, hu.base, hu.leg, hu.tiers, hu.orders, hu.ents, hu.secs, hu.faults⟩
    rcases List.mem_append.1 hy with hy | hy
    · exact hu.line y hy
    · rw [List.mem_singleton.1 hy]
      exact ⟨Nat.zero_le _, Nat.zero_le _⟩
  · refine ⟨by rw [lastL_len]; exact hu.lines, fun y hy => ?_, hu.base, hu.leg, hu.tiers, hu.orders, hu.ents, hu.secs, hu.faults⟩
    rcases lastL_mem hy with hy | ⟨z, hz, rfl⟩
    · exact hu.line y hy
    · have := h.line z hz
      exact ⟨by simp; omega, by simp; omega⟩
  · refine ⟨by rw [lastL_len]; exact hu.lines, fun y hy => ?_, hu.base, hu.leg, hu.tiers, hu.orders, hu.ents, hu.secs, hu.faults⟩
    rcases lastL_mem hy with hy | ⟨z, hz, rfl⟩
    · exact hu.line y hy
    · have := h.line z hz
      exact ⟨by simp; omega, by simp; omega⟩
  · exact ⟨hu.lines, hu.line, hu.base, hu.leg, hu.tiers, by simp; omega, hu.ents, hu.secs, hu.faults⟩
  · exact ⟨hu.lines, hu.line, hu.base, hu.leg, hu.tiers, hu.orders, by simp; omega, hu.secs, hu.faults⟩
  · exact ⟨hu.lines, hu.line, hu.base, hu.leg, hu.tiers, hu.orders, hu.ents, by simp; omega, hu.faults⟩
  · exact ⟨hu.lines, hu.line, hu.base, hu.leg, hu.tiers, hu.orders, hu.ents, hu.secs, by simp; omega⟩
  · exact hu
theorem lim_step {x x' : Wld} {k m : Nat} {l : List By} (h : x.lim m) (hr : readR x k l = some x') : x'.lim (m + 1) := by
  by_cases hk : k = 1
  · subst hk
    obtain ⟨a, b, c, d, rfl⟩ := world_head hr
    have hu := h.up
    exact ⟨hu.lines, hu.line, hu.base, hu.leg, hu.tiers, hu.orders, hu.ents, hu.secs, hu.faults⟩
  · rw [readR_k hk] at hr
    unfold rowO at hr
    split at hr
    · split at hr
      · injection hr with hr
        subst hr
        exact lim_add h
      · cases hr
    · cases hr
theorem lim_small {src : By} {x : Wld} {m : Nat} (hm : m ≤ 1000000) (h : x.lim m) (ht : x.text = src) (ho : x.okW = true) (hs : src.length ≤ 1000000) (hseed : x.seed.length = 32) : x.small :=
  small_read ht ho hs hseed (Nat.le_trans h.lines hm) (fun y hy => ⟨Nat.le_trans (h.line y hy).1 hm, Nat.le_trans (h.line y hy).2 hm⟩) (Nat.le_trans h.base hm) (Nat.le_trans h.leg hm) (Nat.le_trans h.tiers hm) (Nat.le_trans h.orders hm) (Nat.le_trans h.ents hm) (Nat.le_trans h.secs hm) (Nat.le_trans h.faults hm)
theorem Rd.keepN {w w' : World} {B N sz n : Nat} {A : Option Addr} {xs : List Value} (h : Rd w B sz A n xs) (hl : Low N A n) (k : ∀ b, N ≤ b → b < B → w'.heap[b]? = w.heap[b]?) : Rd w' B sz A n xs := by
  refine ⟨h.1, fun h0 => ?_⟩
  obtain ⟨b, off, hA, hb, hc⟩ := h.2 h0
  refine ⟨b, off, hA, hb, fun j u hu => ?_⟩
  rw [← hc j u hu]
  unfold World.cell?
  simp only [k b (hl ⟨b, off, none⟩ hA h0) hb]
theorem WK.keepN {w w' : World} {B N : Nat} {s : WS} {x : Wld} (h : WK w B N s x) (k : ∀ b, N ≤ b → b < B → w'.heap[b]? = w.heap[b]?) : WK w' B N s x :=
  ⟨by
    obtain ⟨ls, l1, l2, l3, l4⟩ := h.rl
    exact ⟨ls, l1, l2.keepN l3 k, l3, fun j y hy => by
      obtain ⟨q, e, r, c, o⟩ := l4 j y hy
      exact ⟨q, e, ⟨r.r0.keepN o.1 k, r.r1.keepN o.2.1 k, r.r2.keepN o.2.2.1 k, r.r3.keepN o.2.2.2 k⟩, c, o⟩⟩, ⟨h.rb.1.keepN h.rb.2 k, h.rb.2⟩, ⟨h.rg.1.keepN h.rg.2 k, h.rg.2⟩, ⟨h.rt.1.keepN h.rt.2 k, h.rt.2⟩, by
    obtain ⟨vs, v1, v2, v3⟩ := h.ro
    exact ⟨vs, v1, v2.keepN h.lo k, fun j y hy => by
      obtain ⟨A, c, e, r, o⟩ := v3 j y hy
      exact ⟨A, c, e, r.keepN o k, o⟩⟩, h.lo, ⟨h.re.1.keepN h.re.2 k, h.re.2⟩, ⟨h.rs.1.keepN h.rs.2 k, h.rs.2⟩, ⟨h.rf.1.keepN h.rf.2 k, h.rf.2⟩⟩
theorem wk_zero (w : World) (B N : Nat) : WK w B N nilWS zeroW :=
  ⟨⟨[], rfl, Rd.nil_, Low.zero, fun k y h => by cases h⟩, ⟨Rd.nil_, Low.zero⟩, ⟨Rd.nil_, Low.zero⟩, ⟨Rd.nil_, Low.zero⟩, ⟨[], rfl, Rd.nil_, fun k y h => by cases h⟩, Low.zero, ⟨Rd.nil_, Low.zero⟩, ⟨Rd.nil_, Low.zero⟩, ⟨Rd.nil_, Low.zero⟩⟩
def LineRh (N : Nat) (o : Option Wld) (W : World) (e : Ending) (w' : World) : Prop := ∃ (X : Array Value) (ok : Bool), e = .returned (.tuple #[.agg X, .bool ok]) ∧ X.size = 43 ∧ (∀ v ∈ X.toList, v.oneCell' = true) ∧ (match o with | some x => ok = true ∧ (∃ s : WS, X = (s.cl x).toArray ∧ WK w' w'.heap.size N s x) ∧ x.seed.length = 32 ∧ ∀ d ∈ x.seed, d < 256 | none => ok = false) ∧ Below W.heap.size W w'
theorem LineR.shape {N : Nat} {o : Option Wld} {W w' : World} {e : Ending} (h : LineR N o W e w') : LineRh N o W e w' := by
  obtain ⟨h, b⟩ := h
  cases o with
  | some x =>
    obtain ⟨s, h1, h2, h3, h4⟩ := h
    exact ⟨_, _, h1, wsCl_size h3, ws_cell, ⟨rfl, ⟨s, rfl, h2⟩, h3, h4⟩, b⟩
  | none =>
    obtain ⟨X, h1, h2, h3⟩ := h
    exact ⟨X, false, h3, h1, h2, rfl, b⟩
def RefR (v : Wld × Nat × Int) (W : World) (e : Ending) (w' : World) : Prop :=
  ∃ s : WS, e = .returned (.tuple #[.agg (s.cl v.1).toArray, .int .i64 (v.2.1 : Nat), .int .i64 v.2.2]) ∧ WldAt w' w'.heap.size s v.1 ∧ Below W.heap.size W w'
theorem refread_leaves {R : Ending → World → Prop} {w : World} {tmps : Array Value} {X : Array Value} {k e : Int} {g : Nat} {ds : List Deferred} (h2 : tmps[2]?.getD undef = .pointer (some ⟨g, 0, none⟩)) (h3 : tmps[3]?.getD undef = .int .i64 k) (h4 : tmps[4]?.getD undef = .int .i64 e) (hX : X.size = 43) (B : Blk w g 35 X) (h : R (.returned (.tuple #[.agg X, .int .i64 k, .int .i64 e])) w) (hd : ds = []) :
    bodyPost Tryz.prog Tryz.f13 R .ret { tmps := tmps, defers := ds } w := by
  have e0 := run_loadVar_row w g 35 35 X _ _ B Tryz.underlying35 rfl (by rw [hX]; exact world_info)
  subst hd
  refine bodyPost_ret (v := .tuple #[.agg X, .int .i64 k, .int .i64 e]) ?_ rfl h
  simp [results, Tryz.results13, h2, h3, h4, asAddr, e0]
theorem wz_built : Tryz.prog.built 35 [] = some (nilWS.cl zeroW).toArray := by kernel_rfl
theorem refW_last {n : Nat} {st : Wld × Nat} {p : By} : refW n st [p] = if p = [] then .inl st else .inr (n + 1) := rfl
def afterO (n r : Nat) (rest : List By) : Option Wld → (Wld × Nat) ⊕ Nat
  | some x => refW (n + 1) (x, r) rest
  | none => .inr (n + 1)
theorem refW_next {n : Nat} {x : Wld} {k : Nat} {p q f : By} {r rest : List By} (hs : splitC 32 p = f :: rest) : refW n (x, k) (p :: q :: r) = if followsN (rowN f) k = true then afterO n (rowN f) (q :: r) (readR x (rowN f) rest) else .inr (n + 1) := by
  show (match stepP (x, k) p with | some st' => refW (n + 1) st' (q :: r) | none => .inr (n + 1)) = _
  unfold stepP
  rw [hs]
  cases hf : followsN (rowN f) k with
  | true => cases hr : readR x (rowN f) rest <;> simp [hf, hr, afterO]
  | false => simp [hf]
def finV : (Wld × Nat) ⊕ Nat → Wld × Nat × Int
  | .inr n => (zeroW, n, 590)
  | .inl (w, k) => if k = 0 then (zeroW, 1, 590) else if postE w = 0 then (w, 0, 0) else (zeroW, 0, postE w)
theorem readV_fin (src : By) : readV src = finV (refW 0 (zeroW, 0) (splitC 10 src)) := by
  rw [refW_eq _ _ (Nat.le_refl _)]
  unfold readV
  cases foldW 0 (zeroW, 0) (linesC src) with
  | inr n => rfl
  | inl p => cases p; rfl
theorem parts_pos {c : UInt8} {s : By} {l : List ByteArray} (h : bys l = splitC c s) : 0 < l.length := by
  rcases Nat.eq_zero_or_pos l.length with h0 | h0
  · rw [List.length_eq_zero_iff.1 h0] at h
    exact absurd h.symm (splitC_ne c s)
  · exact h0
theorem parts_le {c : UInt8} {s : ByteArray} {l : List ByteArray} (h : bys l = splitC c s.data.toList) : (∀ p ∈ l, p.size ≤ s.size) ∧ l.length ≤ s.size + 1 := by
  obtain ⟨h1, h2⟩ := splitC_len (c := c) (s := s.data.toList)
  have e : s.data.toList.length = s.size := by rw [Array.length_toList]; rfl
  rw [← h] at h1 h2
  refine ⟨fun p hp => ?_, ?_⟩
  · have := h1 p.data.toList (by unfold bys; exact List.mem_map.2 ⟨p, hp, rfl⟩)
    rw [e] at this
    have e2 : p.data.toList.length = p.size := by rw [Array.length_toList]; rfl
    omega
  · unfold bys at h2
    rw [List.length_map] at h2
    omega
theorem strs_at {w : World} {base g n cap : Nat} {l : List ByteArray} (h : w.ownsRow base 9 1 (.slice (some ⟨g, 0, none⟩) n cap) n (strs l)) {j : Nat} {p : ByteArray} (hp : l[j]? = some p) : w.cell? ⟨g, j, none⟩ = some (.string p) := own_cell h (by unfold strs; rw [List.getElem?_map, hp]; rfl)
theorem zero_yes {W w : World} {v : Wld × Nat × Int} {k : Nat} {e : Int} {X : Array Value} (hX : X = (nilWS.cl zeroW).toArray) (hv : v = (zeroW, k, e)) (b : Below W.heap.size W w) : RefR v W (.returned (.tuple #[.agg X, .int .i64 (k : Nat), .int .i64 e])) w := by
  rw [hv, hX]
  exact ⟨nilWS, rfl, wld_zero _ _, b⟩
theorem ref_read (src : ByteArray) (W : World) (hs : src.size ≤ 3000) : Calls Tryz.prog 13 #[.string src] W (RefR (readV src.data.toList) W) := by
  obtain ⟨v9, hv9⟩ : ∃ v, Hid (readV src.data.toList = v) := ⟨_, Lib.hid rfl⟩
  rw [hv9.out]
  have hsl : src.data.toList.length = src.size := by rw [Array.length_toList]; rfl
  have hZs : (nilWS.cl zeroW).toArray.size = 43 := wsCl_size rfl
  have hZ1 : ∀ v ∈ (nilWS.cl zeroW).toArray.toList, v.oneCell' = true := ws_cell
  have hzb := Lib.hid wz_built
  go_enter Tryz.func13, Tryz.ntmps13
  go_upto_region 1 with fail
  refine (show Code.wp _ _ _ _ (W.alloc (.cells (nilWS.cl zeroW).toArray 35)) from ?_)
  obtain ⟨ZW, hZW⟩ : ∃ ZW, Hid ((nilWS.cl zeroW).toArray = ZW) := ⟨_, Lib.hid rfl⟩
  rw [hZW.out] at hZs hZ1 hzb ⊢
  have B0 := Blk.new W 35 ZW _ rfl
  have b0 := bAl (bRefl W) (.cells ZW 35)
  generalize W.alloc (.cells ZW 35) = w1 at *
  have q : Calls Tryz.prog 29 #[.string src, .int .u8 10] w1 (SplPost (splitC 10 src.data.toList) w1) := rp_split src 10 w1 (by omega)
  go_upto_region 2 with (go_at_call 29; (with_reducible refine q.mono ?_); rintro e w2 ⟨v, ps, rfl, hps, hown, b2⟩)
  clear q
  have hpp := parts_pos hps
  obtain ⟨hpz, hpl⟩ := parts_le hps
  replace hpz := Lib.hid hpz
  have hrf : Hid (v9 = finV (refW 0 (zeroW, 0) (bys ps))) := Lib.hid (by rw [← hv9.out, hps, readV_fin])
  have hfo : Hid (∀ xw lk, refW 0 (zeroW, 0) (bys ps) = .inl (xw, lk) → lk ≠ 0 → xw.text = src.data.toList ∧ xw.okW = true) := Lib.hid (fun xw lk h h0 => by
    rw [hps, refW_eq _ _ (Nat.le_refl _)] at h
    obtain ⟨h1, h2, _⟩ := text_fold h h0
    exact ⟨h1, h2⟩)
  obtain ⟨gp, cp, rfl⟩ := own_two hown hpp
  obtain ⟨-, hgp, curp, BP, -, -, -, -⟩ := OwnAt.parts hown
  have hcur : Hid (∀ j p, ps[j]? = some p → curp[j]? = some (Value.string p)) := Lib.hid (fun j p h => by rw [← BP.cell]; exact strs_at hown h)
  replace B0 := B0.below b2 B0.lt
  replace b0 := bCall b0 b2
  have hW0 := B0.lt
  clear hown b2 hps hv9
  apply wp_region_lit
  refine wpList_buildG (by rfl) (by rfl) (by rfl) hzb.out ?_
  simp only [Act.put]
  iterate 3 go_step
  refine wpList_storeG (by rfl) (by rfl) (by rfl) (by rfl) (store_newW (by rw [hZs]; exact world_info) (by rw [hZs]; rfl) hZ1) ?_
  simp only [Act.put]
  have B2 := Blk.new w2 35 ZW _ rfl
  have hN0 : (w2.alloc (.cells ZW 35)).heap.size = w2.heap.size + 1 := by simp
  have hgp2 := BP.lt
  replace B0 := B0.alloc (.cells ZW 35)
  replace BP := BP.alloc (.cells ZW 35)
  replace b0 := bAl b0 (.cells ZW 35)
  generalize w2.alloc (.cells ZW 35) = w3 at *
  generalize w2.heap.size = h2 at *
  go_wp2_with fail
  go_loopw [7, 8] (fun l i wr => ∃ (k lk : Nat) (xw : Wld) (s : WS), k < ps.length ∧ lk ≤ 10 ∧ i = .int .i64 k ∧ l = .int .i64 lk ∧ Below h2 w3 wr ∧ Blk wr h2 35 (s.cl xw).toArray ∧ Hid (WK wr wr.heap.size (h2 + 1) s xw) ∧ xw.seed.length = 32 ∧ (∀ d ∈ xw.seed, d < 256) ∧ Hid (xw.lim k) ∧ Hid (4 ≤ lk ∧ lk ≤ 6 → xw.lines ≠ []) ∧ Hid (refW 0 (zeroW, 0) (bys ps) = refW k (xw, lk) ((bys ps).drop k))) (fun _ i _ => ps.length - (intOf i).toNat)
  case atStart => exact ⟨0, 0, zeroW, nilWS, hpp, by omega, rfl, rfl, (bRefl w3).mono (by omega), by rw [hZW.out]; exact B2, Lib.hid (wk_zero _ _ _), rfl, fun d hd => by have := List.eq_of_mem_replicate hd; omega, Lib.hid ⟨Nat.le_refl _, fun y hy => (by cases hy), Nat.le_refl _, Nat.le_refl _, Nat.le_refl _, Nat.le_refl _, Nat.le_refl _, Nat.le_refl _, Nat.le_refl _⟩, Lib.hid (fun h => by omega), Lib.hid rfl⟩
  case round =>
    clear B2
    obtain ⟨k, lk, xw, s, hk, hlk, rfl, rfl, hb, B2, hWK, hsd, hsb, hlim, hfit, href⟩ := hrel
    have BPr := BP.below hb hgp2
    have B0r := B0.below hb hW0
    have hbW := b0.trans (hb.mono (Nat.le_of_lt hW0))
    obtain ⟨p, hp⟩ : ∃ p, Hid (ps[k]? = some p) := ⟨_, Lib.hid (List.getElem?_eq_getElem hk)⟩
    have cpk := (BPr.cell k).trans (hcur.out k p hp.out)
    have hpsz := Nat.le_trans (hpz.out p (List.mem_of_getElem? hp.out)) hs
    have hXs : (s.cl xw).toArray.size = 43 := wsCl_size hsd
    have hX1 : ∀ v ∈ (s.cl xw).toArray.toList, v.oneCell' = true := ws_cell
    have i0 : (0 : Int) ≤ (k : Int) := by omega
    have i1 : (k : Int) < (ps.length : Int) := by omega
    have i2 : IntKind.i64.wrap ((ps.length : Int) - 1) = (ps.length : Int) - 1 := by rw [IntKind.wrap_i64]; omega
    have i3 : IntKind.i64.wrap ((k : Int) + 1) = (k : Int) + 1 := by rw [IntKind.wrap_i64]; omega
    have hbk : Hid ((bys ps)[k]? = some p.data.toList) := Lib.hid (by unfold bys; rw [List.getElem?_map, hp.out]; rfl)
    have hbl : (bys ps).length = ps.length := List.length_map ..
    have hno : Hid (∀ n w', refW 0 (zeroW, 0) (bys ps) = .inr n → Below W.heap.size W w' → RefR v9 W (.returned (.tuple #[.agg ZW, .int .i64 (n : Nat), .int .i64 590])) w') := Lib.hid (fun n w' h b => zero_yes hZW.out.symm (by rw [hrf.out, h]; rfl) b)
    obtain ⟨X, hX⟩ : ∃ X, Hid ((s.cl xw).toArray = X) := ⟨_, Lib.hid rfl⟩
    rw [hX.out] at B2 hXs hX1
    by_cases hlast : (k : Int) = (ps.length : Int) - 1
    · have hdrop : (bys ps).drop k = [p.data.toList] := by
        obtain ⟨h1, h2⟩ := List.getElem?_eq_some_iff.1 hbk.out
        rw [List.drop_eq_getElem_cons h1, h2, List.drop_of_length_le (by omega)]
      have href2 := href.out
      rw [hdrop, refW_last] at href2
      replace href2 := Lib.hid href2
      have hlb : ((k : Int) == (ps.length : Int) - 1) = true := by rw [beq_iff_eq]; omega
      clear href hdrop hlast
      by_cases hpe : p = ⟨#[]⟩
      · subst hpe
        have href3 : Hid (refW 0 (zeroW, 0) (bys ps) = .inl (xw, lk)) := Lib.hid (href2.out.trans (if_pos rfl))
        clear href2 hno hfit
        by_cases hl0 : lk = 0
        · subst hl0
          have hv : Hid (v9 = (zeroW, 1, 590)) := Lib.hid (by rw [hrf.out, href3.out]; rfl)
          go_upto_region 18 with fail
          apply wp_region_lit
          refine wpList_buildG (by rfl) (by rfl) (by rfl) hzb.out ?_
          simp only [Act.put]
          refine wpList_storeG (by rfl) (by rfl) (by rfl) (by rfl) (store_whole B0r (by rw [hZs]; exact world_info) rfl hZ1) ?_
          simp only [Act.put]
          rw [setRow_same B0r]
          go_wp2_with fail
          exact refread_leaves rfl rfl rfl hZs B0r (zero_yes (k := 1) hZW.out.symm hv.out hbW) rfl
        · obtain ⟨htx, hox⟩ := hfo.out xw lk href3.out hl0
          have hsm : xw.small := lim_small (by omega) hlim.out htx hox (by omega) hsd
          have q := ref_check s xw wr hWK.out.wld hWK.out.rl.lc hsm
          have hfin : Hid (v9 = if postE xw = 0 then (xw, 0, 0) else (zeroW, 0, postE xw)) := Lib.hid (by rw [hrf.out, href3.out]; exact if_neg hl0)
          obtain ⟨E, hE⟩ : ∃ E, Hid (postE xw = E) := ⟨_, Lib.hid rfl⟩
          rw [hE.out, hX.out] at q
          rw [hE.out] at hfin
          clear htx hox hsm hE
          have g0 : ¬ (lk : Int) = 0 := by omega
          have hlkz : Hid True := Lib.hid trivial
          clear hl0
          go_upto_region 19 with fail
          apply wp_region_lit
          refine wpList_loadG (by rfl) (by rfl) (by rfl) (load_blk B2 Tryz.underlying35 rfl (by rw [hXs]; exact world_info)) ?_
          simp only [Act.put]
          go_upto_region 20 with (go_at_call 21; (with_reducible refine q.mono ?_); rintro e w6 ⟨rfl, b6⟩)
          have B06 := B0r.below b6 B0r.lt
          have B26 := B2.below b6 B2.lt
          have hb6 := bCall hbW b6
          by_cases hE0 : E = 0
          · subst hE0
            have hv : Hid (v9 = (xw, 0, 0)) := Lib.hid (hfin.out.trans (if_pos rfl))
            go_upto_region 22 with fail
            apply wp_region_lit
            refine wpList_loadG (by rfl) (by rfl) (by rfl) (load_blk B26 Tryz.underlying35 rfl (by rw [hXs]; exact world_info)) ?_
            simp only [Act.put]
            refine wpList_storeG (by rfl) (by rfl) (by rfl) (by rfl) (store_whole B06 (by rw [hXs]; exact world_info) (by rw [hZs, hXs]) hX1) ?_
            simp only [Act.put]
            have b9 := below_setRowP hb6 (Nat.le_refl _) X
            have B9 := B06.row X
            have hK9 : Hid (WldAt (w6.setRow W.heap.size X) (w6.setRow W.heap.size X).heap.size s xw) := Lib.hid (by
              have h1 := (hWK.out.below b6).keepN (w' := w6.setRow W.heap.size X) (fun b hb _ => setRow_other _ _ _ _ (by omega))
              exact (h1.more (show wr.heap.size ≤ (w6.setRow W.heap.size X).heap.size by simpa using b6.size)).wld)
            go_wp2_with fail
            refine refread_leaves rfl rfl rfl hXs B9 ?_ rfl
            rw [hv.out, ← hX.out]
            exact ⟨s, rfl, by have := hK9.out; rw [← hX.out] at this; exact this, by rw [hX.out]; exact b9⟩
          · have hv : Hid (v9 = (zeroW, 0, E)) := Lib.hid (hfin.out.trans (if_neg hE0))
            have g1 : (E != 0) = true := by rw [bne_iff_ne]; exact hE0
            clear hE0 hfin
            go_upto_region 21 with fail
            apply wp_region_lit
            refine wpList_buildG (by rfl) (by rfl) (by rfl) hzb.out ?_
            simp only [Act.put]
            iterate 3 go_step
            refine wpList_storeG (by rfl) (by rfl) (by rfl) (by rfl) (store_whole B06 (by rw [hZs]; exact world_info) rfl hZ1) ?_
            simp only [Act.put]
            rw [setRow_same B06]
            go_wp2_with fail
            exact refread_leaves rfl rfl rfl hZs B06 (zero_yes (k := 0) hZW.out.symm hv.out hb6) rfl
      · have hpe2 := str_ne hpe
        have hpe3 : p.toList.isEmpty = false := by
          rw [ByteArray.toList_eq, List.isEmpty_eq_false_iff]
          exact fun e => hpe (ByteArray.ext (by rw [← Array.toArray_toList (xs := p.data), e]))
        have href3 : Hid (refW 0 (zeroW, 0) (bys ps) = .inr (k + 1)) := Lib.hid (href2.out.trans (if_neg (fun h => hpe (ByteArray.ext (Array.toList_inj.1 h)))))
        clear href2 hpe
        have q8 : Calls Tryz.prog 29 #[.string p, .int .u8 32] wr (SplPost (splitC 32 p.data.toList) wr) := rp_split p 32 wr (by omega)
        go_upto_region 9 with (go_at_call 29; (with_reducible refine q8.mono ?_); rintro e w4 ⟨vw, ws, rfl, hws, hownw, b4⟩)
        have hwp := parts_pos hws
        obtain ⟨hwz, hwl⟩ := parts_le hws
        replace hwz := Lib.hid hwz
        obtain ⟨f, rest, rfl⟩ : ∃ f rest, ws = f :: rest := by
          cases ws with
          | nil => exact absurd hwp (by decide)
          | cons f rest => exact ⟨f, rest, rfl⟩
        obtain ⟨gw, cw, rfl⟩ := own_two hownw hwp
        have hwcap := (OwnAt.parts hownw).2.2
        have cw0 : w4.cell? ⟨gw, 0, none⟩ = some (.string f) := strs_at hownw rfl
        have hwlen : (f :: rest).length = rest.length + 1 := rfl
        rw [hwlen] at hownw hwl hwcap ⊢
        clear hwlen hwp q8
        have j0 : (0 : Int) < (rest.length : Int) + 1 := by omega
        obtain ⟨r, hr⟩ : ∃ r, Hid (rowN f.data.toList = r) := ⟨_, Lib.hid rfl⟩
        have q9 := rp_row f w4
        rw [hr.out] at q9
        go_upto_region 10 with (go_at_call 30; (with_reducible refine q9.mono ?_); rintro e w5 ⟨rfl, b5⟩)
        have b45 := bCall b4 b5
        have B05 := B0r.below b45 B0r.lt
        have hb5 := bCall hbW b45
        clear q9 cw0
        go_upto_region 11 with fail
        apply wp_region_lit
        refine wpList_buildG (by rfl) (by rfl) (by rfl) hzb.out ?_
        simp only [Act.put]
        iterate 6 go_step
        refine wpList_storeG (by rfl) (by rfl) (by rfl) (by rfl) (store_whole B05 (by rw [hZs]; exact world_info) rfl hZ1) ?_
        simp only [Act.put]
        rw [setRow_same B05]
        go_wp2_with fail
        exact refread_leaves rfl rfl rfl hZs B05 (hno.out (k + 1) _ href3.out hb5) rfl
    · have hk1 : k + 1 < ps.length := by omega
      obtain ⟨p2, hp2⟩ : ∃ p2, Hid ((bys ps)[k + 1]? = some p2) := ⟨_, Lib.hid (List.getElem?_eq_getElem (by omega))⟩
      have hdrop : Hid ((bys ps).drop k = p.data.toList :: p2 :: (bys ps).drop (k + 2)) := Lib.hid (by
        obtain ⟨h1, h2⟩ := List.getElem?_eq_some_iff.1 hbk.out
        obtain ⟨h3, h4⟩ := List.getElem?_eq_some_iff.1 hp2.out
        rw [List.drop_eq_getElem_cons h1, h2, List.drop_eq_getElem_cons h3, h4])
      have hdrop2 : Hid ((bys ps).drop (k + 1) = p2 :: (bys ps).drop (k + 2)) := Lib.hid (by
        obtain ⟨h3, h4⟩ := List.getElem?_eq_some_iff.1 hp2.out
        rw [List.drop_eq_getElem_cons h3, h4])
      have q8 : Calls Tryz.prog 29 #[.string p, .int .u8 32] wr (SplPost (splitC 32 p.data.toList) wr) := rp_split p 32 wr (by omega)
      go_upto_region 9 with (go_at_call 29; (with_reducible refine q8.mono ?_); rintro e w4 ⟨vw, ws, rfl, hws, hownw, b4⟩)
      have hwp := parts_pos hws
      obtain ⟨hwz, hwl⟩ := parts_le hws
      replace hwz := Lib.hid hwz
      obtain ⟨f, rest, rfl⟩ : ∃ f rest, ws = f :: rest := by
        cases ws with
        | nil => exact absurd hwp (by decide)
        | cons f rest => exact ⟨f, rest, rfl⟩
      obtain ⟨gw, cw, rfl⟩ := own_two hownw hwp
      have hwcap := (OwnAt.parts hownw).2.2
      have cw0 : w4.cell? ⟨gw, 0, none⟩ = some (.string f) := strs_at hownw rfl
      have hwlen : (f :: rest).length = rest.length + 1 := rfl
      rw [hwlen] at hownw hwl hwcap ⊢
      clear hwlen hwp q8
      have j0 : (0 : Int) < (rest.length : Int) + 1 := by omega
      obtain ⟨r, hr⟩ : ∃ r, Hid (rowN f.data.toList = r) := ⟨_, Lib.hid rfl⟩
      have q9 := rp_row f w4
      rw [hr.out] at q9
      go_upto_region 10 with (go_at_call 30; (with_reducible refine q9.mono ?_); rintro e w5 ⟨rfl, b5⟩)
      have b45 := bCall b4 b5
      have B05 := B0r.below b45 B0r.lt
      have hb5 := bCall hbW b45
      clear q9 cw0
      have hstep : Hid (refW 0 (zeroW, 0) (bys ps) = if followsN r lk = true then afterO k r ((bys ps).drop (k + 1)) (readR xw r (bys rest)) else .inr (k + 1)) := Lib.hid (by
        rw [href.out, hdrop.out, hdrop2.out, ← hr.out]
        exact refW_next (rest := bys rest) hws.symm)
      clear href hdrop hdrop2 hp2 hbk
      have q10 := rp_follows r lk w5
      cases hfol : followsN r lk with
      | false =>
        rw [hfol] at q10
        have href3 : Hid (refW 0 (zeroW, 0) (bys ps) = .inr (k + 1)) := Lib.hid (by rw [hstep.out, hfol]; rfl)
        clear hstep hfol
        go_upto_region 11 with (go_at_call 31; (with_reducible refine q10.mono ?_); rintro e w6 ⟨rfl, rfl⟩)
        apply wp_region_lit
        refine wpList_buildG (by rfl) (by rfl) (by rfl) hzb.out ?_
        simp only [Act.put]
        iterate 6 go_step
        refine wpList_storeG (by rfl) (by rfl) (by rfl) (by rfl) (store_whole B05 (by rw [hZs]; exact world_info) rfl hZ1) ?_
        simp only [Act.put]
        rw [setRow_same B05]
        go_wp2_with fail
        exact refread_leaves rfl rfl rfl hZs B05 (hno.out (k + 1) _ href3.out hb5) rfl
      | true =>
        rw [hfol] at q10
        have hr1 : 1 ≤ r := by
          rcases Nat.eq_zero_or_pos r with h0 | h0
          · rw [h0] at hfol
            exact absurd hfol (by unfold followsN; simp)
          · exact h0
        have hne5 : rowN f.data.toList = 5 ∨ rowN f.data.toList = 6 → xw.lines ≠ [] := by
          rw [hr.out]
          intro h
          exact hfit.out (foll_in hfol (by omega))
        obtain ⟨o, ho⟩ : ∃ o, Hid (readR xw r (bys rest) = o) := ⟨_, Lib.hid rfl⟩
        have hstep2 : Hid (refW 0 (zeroW, 0) (bys ps) = afterO k r ((bys ps).drop (k + 1)) o) := Lib.hid (by rw [hstep.out, hfol, ← ho.out]; rfl)
        have hfit2 : Hid (∀ x', o = some x' → 4 ≤ r ∧ r ≤ 6 → x'.lines ≠ []) := Lib.hid (fun x' h => fit_step hr1 (by rw [ho.out, h]) hfol hfit.out)
        have hlim2 : Hid (∀ x', o = some x' → x'.lim (k + 1)) := Lib.hid (fun x' h => lim_step hlim.out (by rw [ho.out, h]))
        have hr10 : r ≤ 10 := (word_is hr.out hr1).2
        have hWK5 := (hWK.out.below b45).more b45.size
        have hA5 : Rd w5 w5.heap.size 1 (some ⟨gw, 0, none⟩) (rest.length + 1) (strs (f :: rest)) := rd_ownN (ownsRow_keep hownw b5)
        have hM : xw.lim 1000000 := by
          have h := hlim.out
          have hkm : k ≤ 1000000 := by omega
          exact ⟨Nat.le_trans h.lines hkm, fun y hy => ⟨Nat.le_trans (h.line y hy).1 hkm, Nat.le_trans (h.line y hy).2 hkm⟩, Nat.le_trans h.base hkm, Nat.le_trans h.leg hkm, Nat.le_trans h.tiers hkm, Nat.le_trans h.orders hkm, Nat.le_trans h.ents hkm, Nat.le_trans h.secs hkm, Nat.le_trans h.faults hkm⟩
        have hB2l := B2.lt
        obtain ⟨cur9, -, hcap9, -⟩ := hwcap
        have q12 := (rp_readLine (h2 + 1) s xw (some ⟨gw, 0, none⟩) cw f rest w5 (by rw [hr.out]; exact hr1) hne5 hWK5 (by have := b45.size; omega) hsd hsb hM hA5 hcap9 (fun t ht => by have := hwz.out t (List.mem_cons_of_mem _ ht); omega) (by omega)).mono (fun _ _ h => h.shape)
        rw [hr.out, ho.out, hX.out] at q12
        have B25 := B2.below b45 B2.lt
        have b35 := hb.trans (b45.mono (Nat.le_of_lt hB2l))
        clear hstep hfol ho hM hA5 hWK5 hownw hwl hne5 hlim hfit
        go_upto_region 12 with (go_at_call 31; (with_reducible refine q10.mono ?_); rintro e w6 ⟨rfl, rfl⟩)
        apply wp_region_lit
        refine wpList_loadG (by rfl) (by rfl) (by rfl) (load_blk B25 Tryz.underlying35 rfl (by rw [hXs]; exact world_info)) ?_
        simp only [Act.put]
        go_wp2_with fail
        (with_reducible refine q12.mono ?_)
        rintro e w6 ⟨Y, ok, rfl, hYs, hY1, ho2, b6⟩
        replace ho2 := Lib.hid ho2
        dsimp only
        iterate 13 go_step
        refine wpList_storeG (by rfl) (by rfl) (by rfl) (by rfl) (store_newW (by rw [hYs]; exact world_info) (by rw [hYs]; rfl) hY1) ?_
        simp only [Act.put]
        have BY := Blk.new w6 35 Y _ rfl
        have B07 := (B05.below b6 B05.lt).alloc (.cells Y 35)
        have B27 := (B25.below b6 B25.lt).alloc (.cells Y 35)
        have hb7 := bAl (bCall hb5 b6) (.cells Y 35)
        have hl56 : h2 ≤ w5.heap.size := Nat.le_trans (Nat.le_of_lt hB2l) b45.size
        have b37 := (b35.trans (b6.mono hl56)).alloc (Nat.le_trans hl56 b6.size) (.cells Y 35)
        have b67 := bAl (bRefl w6) (.cells Y 35)
        generalize w6.alloc (.cells Y 35) = w7 at *
        cases o with
        | none =>
          obtain rfl : ok = false := ho2.out
          have href3 : Hid (refW 0 (zeroW, 0) (bys ps) = .inr (k + 1)) := Lib.hid hstep2.out
          clear hstep2
          go_upto_region 14 with fail
          apply wp_region_lit
          refine wpList_buildG (by rfl) (by rfl) (by rfl) hzb.out ?_
          simp only [Act.put]
          iterate 6 go_step
          refine wpList_storeG (by rfl) (by rfl) (by rfl) (by rfl) (store_whole B07 (by rw [hZs]; exact world_info) rfl hZ1) ?_
          simp only [Act.put]
          rw [setRow_same B07]
          go_wp2_with fail
          exact refread_leaves rfl rfl rfl hZs B07 (hno.out (k + 1) _ href3.out hb7) rfl
        | some x' =>
          obtain ⟨rfl, ⟨s', hYe, hW6⟩, hsd2, hsb2⟩ := ho2.out
          have href3 : Hid (refW 0 (zeroW, 0) (bys ps) = refW (k + 1) (x', r) ((bys ps).drop (k + 1))) := Lib.hid hstep2.out
          clear hstep2
          replace hYe := Lib.hid hYe
          replace hW6 := Lib.hid hW6
          go_upto_region 15 with fail
          apply wp_region_lit
          refine wpList_loadG (by rfl) (by rfl) (by rfl) (load_blk BY Tryz.underlying35 rfl (by rw [hYs]; exact world_info)) ?_
          simp only [Act.put]
          refine wpList_storeG (by rfl) (by rfl) (by rfl) (by rfl) (store_whole B27 (by rw [hYs]; exact world_info) (by rw [hXs, hYs]) hY1) ?_
          simp only [Act.put]
          have b9 := below_setRowP b37 (Nat.le_refl h2) Y
          have B29 := B27.row Y
          have hW9 : Hid (WK (w7.setRow h2 Y) (w7.setRow h2 Y).heap.size (h2 + 1) s' x') := Lib.hid (by
            have h1 := ((hW6.out.below b67).more b67.size).keepN (w' := w7.setRow h2 Y) (fun b hb _ => setRow_other _ _ _ _ (by omega))
            exact h1.more (by simp))
          generalize w7.setRow h2 Y = w9 at *
          go_wp2_with fail
          exact ⟨⟨k + 1, r, x', s', hk1, hr10, by go_num, rfl, b9, by rw [← hYe.out]; exact B29, hW9, hsd2, hsb2, Lib.hid (hlim2.out x' rfl), Lib.hid (hfit2.out x' rfl), href3⟩, by simp [intOf]; omega⟩
end Go.Proofs.YtmbopkcmbiommaaGreatDoor
