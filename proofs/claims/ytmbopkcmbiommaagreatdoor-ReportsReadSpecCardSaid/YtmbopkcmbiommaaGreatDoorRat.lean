/- strconv.Atoi and strconv.Itoa by the kit's contracts: the laying by hand. -/
import Derived.Test.YtmbopkcmbiommaaGreatDoorRows
import Derived.Shelf.Strconv.AtoiAll
import Derived.Shelf.Strconv.Itoa3
import Derived.Test.YtmbopkcmbiommaaGreatDoorRas
set_option maxRecDepth 1000000
set_option maxHeartbeats 16000000
namespace Go.Proofs.YtmbopkcmbiommaaGreatDoor
open Go Go.RowKit
def numR : Go.Shelf.Ren where
  f := fun k => if k = 129 then 166 else if k = 171 then 126 else if k = 172 then 147 else if k = 205 then 172 else if k = 243 then 145 else if k = 244 then 154 else if k = 245 then 155 else if k = 246 then 153 else if k = 247 then 160 else if k = 279 then 161 else if k = 280 then 162 else if k = 281 then 163 else if k = 282 then 164 else if k = 283 then 156 else if k = 284 then 157 else if k = 285 then 158 else if k = 286 then 159 else if k = 287 then 170 else if k = 316 then 171 else if k = 317 then 165 else if k = 318 then 167 else if k = 319 then 168 else if k = 320 then 169 else if k = 321 then 175 else if k = 322 then 176 else if k = 337 then 173 else 174
  t := fun k => if k = 0 then 0 else if k = 2 then 2 else if k = 3 then 3 else if k = 4 then 4 else if k = 5 then 5 else if k = 9 then 9 else if k = 20 then 20 else if k = 21 then 21 else if k = 37 then 73 else if k = 46 then 156 else if k = 51 then 198 else if k = 53 then 204 else if k = 75 then 111 else if k = 76 then 112 else if k = 80 then 78 else if k = 85 then 210 else if k = 127 then 118 else if k = 143 then 226 else if k = 145 then 228 else if k = 167 then 209 else if k = 168 then 212 else if k = 171 then 203 else if k = 173 then 207 else if k = 175 then 218 else if k = 210 then 222 else if k = 212 then 215 else if k = 213 then 216 else if k = 232 then 31 else 229
  g := fun k => if k = 15 then 4 else if k = 16 then 5 else if k = 17 then 3 else if k = 18 then 6 else 7
theorem numL172 : LaysC.n172 Tryz.prog numR where
  mixed := by kernel_rfl
  f129 := by kernel_rfl
  f171 := by kernel_rfl
  f172 := by kernel_rfl
  f205 := by kernel_rfl
  f243 := by kernel_rfl
  f244 := by kernel_rfl
  f245 := by kernel_rfl
  f246 := by kernel_rfl
  f247 := by kernel_rfl
  f279 := by kernel_rfl
  f280 := by kernel_rfl
  f281 := by kernel_rfl
  f282 := by kernel_rfl
  f283 := by kernel_rfl
  f284 := by kernel_rfl
  f285 := by kernel_rfl
  f286 := by kernel_rfl
  f287 := by kernel_rfl
  f316 := by kernel_rfl
  f317 := by kernel_rfl
  f318 := by kernel_rfl
  f319 := by kernel_rfl
  f320 := by kernel_rfl
  f321 := by kernel_rfl
  f322 := by kernel_rfl
  f337 := by kernel_rfl
  f338 := by kernel_rfl
  t0 := by kernel_rfl
  a0 := by intro w; kernel_rfl
  z0 := by intro w; kernel_rfl
  v0 := by intro w; kernel_rfl
  t2 := by kernel_rfl
  a2 := by intro w; kernel_rfl
  z2 := by intro w; kernel_rfl
  v2 := by intro w; kernel_rfl
  t3 := by kernel_rfl
  a3 := by intro w; kernel_rfl
  z3 := by intro w; kernel_rfl
  v3 := by intro w; kernel_rfl
  t4 := by kernel_rfl
  a4 := by intro w; kernel_rfl
  z4 := by intro w; kernel_rfl
  v4 := by intro w; kernel_rfl
  t5 := by kernel_rfl
  a5 := by intro w; kernel_rfl
  z5 := by intro w; kernel_rfl
  v5 := by intro w; kernel_rfl
  t9 := by kernel_rfl
  a9 := by intro w; kernel_rfl
  z9 := by intro w; kernel_rfl
  v9 := by intro w; kernel_rfl
  t20 := by kernel_rfl
  a20 := by intro w; kernel_rfl
  z20 := by intro w; kernel_rfl
  v20 := by intro w; kernel_rfl
  t21 := by kernel_rfl
  a21 := by intro w; kernel_rfl
  z21 := by intro w; kernel_rfl
  v21 := by intro w; kernel_rfl
  t37 := by kernel_rfl
  a37 := by intro w; kernel_rfl
  z37 := by intro w; kernel_rfl
  v37 := by intro w; kernel_rfl
  t46 := by kernel_rfl
  a46 := by intro w; kernel_rfl
  z46 := by intro w; kernel_rfl
  v46 := by intro w; kernel_rfl
  t51 := by kernel_rfl
  a51 := by intro w; kernel_rfl
  z51 := by intro w; kernel_rfl
  v51 := by intro w; kernel_rfl
  t53 := by kernel_rfl
  a53 := by intro w; kernel_rfl
  z53 := by intro w; kernel_rfl
  v53 := by intro w; kernel_rfl
  t75 := by kernel_rfl
  a75 := by intro w; kernel_rfl
  z75 := by intro w; kernel_rfl
  v75 := by intro w; kernel_rfl
  t76 := by kernel_rfl
  a76 := by intro w; kernel_rfl
  z76 := by intro w; kernel_rfl
  v76 := by intro w; kernel_rfl
  t85 := by kernel_rfl
  a85 := by intro w; kernel_rfl
  z85 := by intro w; kernel_rfl
  v85 := by intro w; kernel_rfl
  t127 := by kernel_rfl
  a127 := by intro w; kernel_rfl
  z127 := by intro w; kernel_rfl
  v127 := by intro w; kernel_rfl
  t143 := by kernel_rfl
  a143 := by intro w; kernel_rfl
  z143 := by intro w; kernel_rfl
  v143 := by intro w; kernel_rfl
  t145 := by kernel_rfl
  a145 := by intro w; kernel_rfl
  z145 := by intro w; kernel_rfl
  v145 := by intro w; kernel_rfl
  t167 := by kernel_rfl
  a167 := by intro w; kernel_rfl
  z167 := by intro w; kernel_rfl
  v167 := by intro w; kernel_rfl
  t168 := by kernel_rfl
  a168 := by intro w; kernel_rfl
  z168 := by intro w; kernel_rfl
  v168 := by intro w; kernel_rfl
  t171 := by kernel_rfl
  a171 := by intro w; kernel_rfl
  z171 := by intro w; kernel_rfl
  v171 := by intro w; kernel_rfl
  t173 := by kernel_rfl
  a173 := by intro w; kernel_rfl
  z173 := by intro w; kernel_rfl
  v173 := by intro w; kernel_rfl
  t175 := by kernel_rfl
  a175 := by intro w; kernel_rfl
  z175 := by intro w; kernel_rfl
  v175 := by intro w; kernel_rfl
  t210 := by kernel_rfl
  a210 := by intro w; kernel_rfl
  z210 := by intro w; kernel_rfl
  v210 := by intro w; kernel_rfl
  t212 := by kernel_rfl
  a212 := by intro w; kernel_rfl
  z212 := by intro w; kernel_rfl
  v212 := by intro w; kernel_rfl
  t213 := by kernel_rfl
  a213 := by intro w; kernel_rfl
  z213 := by intro w; kernel_rfl
  t232 := by kernel_rfl
  a232 := by intro w; kernel_rfl
  z232 := by intro w; kernel_rfl
  v232 := by intro w; kernel_rfl
  t233 := by kernel_rfl
  a233 := by intro w; kernel_rfl
  z233 := by intro w; kernel_rfl
  v233 := by intro w; kernel_rfl
  g15 := by kernel_rfl
  g16 := by kernel_rfl
  g17 := by kernel_rfl
  g18 := by kernel_rfl
  g19 := by kernel_rfl
  t80 := by kernel_rfl
  a80 := by intro w; kernel_rfl
  z80 := by intro w; kernel_rfl
  v80 := by intro w; kernel_rfl
  i0 := by kernel_rfl
  i2 := by kernel_rfl
  i3 := by kernel_rfl
  i4 := by kernel_rfl
  i5 := by kernel_rfl
  i9 := by kernel_rfl
  i20 := by kernel_rfl
  i21 := by kernel_rfl
  i37 := by kernel_rfl
  i46 := by kernel_rfl
  i51 := by kernel_rfl
  i53 := by kernel_rfl
  i75 := by kernel_rfl
  i76 := by kernel_rfl
  i80 := by kernel_rfl
  i85 := by kernel_rfl
  i127 := by kernel_rfl
  i143 := by kernel_rfl
  i145 := by kernel_rfl
  i167 := by kernel_rfl
  i168 := by kernel_rfl
  i171 := by kernel_rfl
  i173 := by kernel_rfl
  i175 := by kernel_rfl
  i210 := by kernel_rfl
  i212 := by kernel_rfl
  i232 := by kernel_rfl
  i233 := by kernel_rfl
  m15 := by kernel_rfl
  m16 := by kernel_rfl
  m17 := by kernel_rfl
  m18 := by kernel_rfl
  m19 := by kernel_rfl
  c0 := by kernel_rfl
  c2 := by kernel_rfl
  c3 := by kernel_rfl
  c4 := by kernel_rfl
  c5 := by kernel_rfl
  c9 := by kernel_rfl
  c20 := by kernel_rfl
  c21 := by kernel_rfl
  c37 := by kernel_rfl
  c46 := by kernel_rfl
  c51 := by kernel_rfl
  c53 := by kernel_rfl
  c75 := by kernel_rfl
  c76 := by kernel_rfl
  c80 := by kernel_rfl
  c85 := by kernel_rfl
  c127 := by kernel_rfl
  c143 := by kernel_rfl
  c145 := by kernel_rfl
  c167 := by kernel_rfl
  c168 := by kernel_rfl
  c171 := by kernel_rfl
  c173 := by kernel_rfl
  c175 := by kernel_rfl
  c210 := by kernel_rfl
  c212 := by kernel_rfl
  c213 := by kernel_rfl
  c232 := by kernel_rfl
  c233 := by kernel_rfl
theorem numL171 : LaysM.n171 Tryz.prog numR where
  mixed := by kernel_rfl
  f129 := by kernel_rfl
  f171 := by kernel_rfl
  f243 := by kernel_rfl
  f246 := by kernel_rfl
  f283 := by kernel_rfl
  f284 := by kernel_rfl
  f285 := by kernel_rfl
  f286 := by kernel_rfl
  f317 := by kernel_rfl
  f318 := by kernel_rfl
  f319 := by kernel_rfl
  f320 := by kernel_rfl
  f337 := by kernel_rfl
  f338 := by kernel_rfl
  t0 := by kernel_rfl
  a0 := by intro w; kernel_rfl
  z0 := by intro w; kernel_rfl
  v0 := by intro w; kernel_rfl
  t2 := by kernel_rfl
  a2 := by intro w; kernel_rfl
  z2 := by intro w; kernel_rfl
  v2 := by intro w; kernel_rfl
  t3 := by kernel_rfl
  a3 := by intro w; kernel_rfl
  z3 := by intro w; kernel_rfl
  v3 := by intro w; kernel_rfl
  t4 := by kernel_rfl
  a4 := by intro w; kernel_rfl
  z4 := by intro w; kernel_rfl
  v4 := by intro w; kernel_rfl
  t5 := by kernel_rfl
  a5 := by intro w; kernel_rfl
  z5 := by intro w; kernel_rfl
  v5 := by intro w; kernel_rfl
  t9 := by kernel_rfl
  a9 := by intro w; kernel_rfl
  z9 := by intro w; kernel_rfl
  v9 := by intro w; kernel_rfl
  t20 := by kernel_rfl
  a20 := by intro w; kernel_rfl
  z20 := by intro w; kernel_rfl
  v20 := by intro w; kernel_rfl
  t37 := by kernel_rfl
  a37 := by intro w; kernel_rfl
  z37 := by intro w; kernel_rfl
  v37 := by intro w; kernel_rfl
  t46 := by kernel_rfl
  a46 := by intro w; kernel_rfl
  z46 := by intro w; kernel_rfl
  v46 := by intro w; kernel_rfl
  t51 := by kernel_rfl
  a51 := by intro w; kernel_rfl
  z51 := by intro w; kernel_rfl
  v51 := by intro w; kernel_rfl
  t53 := by kernel_rfl
  a53 := by intro w; kernel_rfl
  z53 := by intro w; kernel_rfl
  v53 := by intro w; kernel_rfl
  t171 := by kernel_rfl
  a171 := by intro w; kernel_rfl
  z171 := by intro w; kernel_rfl
  v171 := by intro w; kernel_rfl
  t173 := by kernel_rfl
  a173 := by intro w; kernel_rfl
  z173 := by intro w; kernel_rfl
  v173 := by intro w; kernel_rfl
  t212 := by kernel_rfl
  a212 := by intro w; kernel_rfl
  z212 := by intro w; kernel_rfl
  v212 := by intro w; kernel_rfl
  t213 := by kernel_rfl
  a213 := by intro w; kernel_rfl
  z213 := by intro w; kernel_rfl
  t232 := by kernel_rfl
  a232 := by intro w; kernel_rfl
  z232 := by intro w; kernel_rfl
  v232 := by intro w; kernel_rfl
  t233 := by kernel_rfl
  a233 := by intro w; kernel_rfl
  z233 := by intro w; kernel_rfl
  v233 := by intro w; kernel_rfl
  g17 := by kernel_rfl
  g18 := by kernel_rfl
  g19 := by kernel_rfl
  i0 := by kernel_rfl
  i2 := by kernel_rfl
  i3 := by kernel_rfl
  i4 := by kernel_rfl
  i5 := by kernel_rfl
  i9 := by kernel_rfl
  i20 := by kernel_rfl
  i37 := by kernel_rfl
  i46 := by kernel_rfl
  i51 := by kernel_rfl
  i53 := by kernel_rfl
  i171 := by kernel_rfl
  i173 := by kernel_rfl
  i212 := by kernel_rfl
  i232 := by kernel_rfl
  i233 := by kernel_rfl
  m17 := by kernel_rfl
  m18 := by kernel_rfl
  m19 := by kernel_rfl
structure LibG (B : Nat) (w : World) : Prop where
  pow : Lib.TabIs Tryz.prog w "internal/strconv.uint64pow10" .u64 Lib.pow10Tab
  syn : ∃ te pe, w.cell? ⟨4, 0, none⟩ = some (.iface te pe)
  rng : ∃ te pe, w.cell? ⟨5, 0, none⟩ = some (.iface te pe)
  mx : ∃ m : Int, w.cell? ⟨0, 0, none⟩ = some (.int .i64 m)
  b1 : 3 < B
  b2 : 4 < B
  b3 : 5 < B
  b4 : 0 < B
theorem pow_named : Tryz.prog.globalNamed "internal/strconv.uint64pow10" = some 3 := by kernel_rfl
theorem LibG.below {B : Nat} {w w' : World} (h : LibG B w) (b : Below B w w') : LibG B w' := by
  refine ⟨?_, ?_, ?_, ?_, h.b1, h.b2, h.b3, h.b4⟩
  · have := h.pow
    unfold Lib.TabIs World.var? at *
    rw [pow_named] at *
    simp only [Option.bind_some] at *
    rw [b.block _ h.b1]
    exact this
  · obtain ⟨te, pe, hc⟩ := h.syn
    exact ⟨te, pe, (b.cell (p := ⟨_, 0, none⟩) h.b2).trans hc⟩
  · obtain ⟨te, pe, hc⟩ := h.rng
    exact ⟨te, pe, (b.cell (p := ⟨_, 0, none⟩) h.b3).trans hc⟩
  · obtain ⟨m, hc⟩ := h.mx
    exact ⟨m, (b.cell (p := ⟨_, 0, none⟩) h.b4).trans hc⟩
theorem LibG.later {B : Nat} {w w' : World} (h : LibG B w) (hB : B ≤ w.heap.size) (b : Below w.heap.size w w') : LibG B w' := h.below (b.mono hB)
theorem grow_later (w : World) (k : Nat) (os : Array Obj) : Below w.heap.size w (Sort.grow (w.drewN k) os) :=
  ⟨rfl, rfl, rfl, by simp [Sort.grow, World.drewN], fun i hi => by
    show (w.heap ++ os)[i]? = w.heap[i]?
    rw [Array.getElem?_append, if_pos hi]⟩
theorem itoa_any (B : Nat) (n : Int) (w : World) (h : okN n = true) (hG : LibG B w) : Calls Tryz.prog 126 #[.int .i64 n] w (Ret (.string ⟨(itB n).toArray⟩) w) := by
  rw [okN_iff] at h
  refine (Any.strconv_Itoa numL171 n (by omega) (by omega) w hG.pow).mono ?_
  rintro e w' ⟨rfl, k, os, rfl⟩
  rw [itB_eq (by omega) (by omega)]
  exact ⟨rfl, grow_later w k os⟩
theorem atoi_any (B : Nat) (s : ByteArray) (w : World) (hs : s.size ≤ 1000000) (hG : LibG B w) : Calls Tryz.prog 147 #[.string s] w (fun r w' =>
    ((∃ v, Lib.atoiAll s.data.toList = .ok v ∧ r = .returned (.tuple #[.int .i64 v, .nilIface])) ∨ ((∀ v, Lib.atoiAll s.data.toList ≠ .ok v) ∧ ∃ v t x, r = .returned (.tuple #[.int .i64 v, .iface t x]))) ∧ Below w.heap.size w w') := by
  cases e : Lib.atoiAll s.data.toList with
  | ok v =>
    refine (Any.strconv_Atoi_ok numL172 s (by omega) v e w).mono ?_
    rintro r w' ⟨rfl, hw⟩
    refine ⟨.inl ⟨v, rfl, rfl⟩, ?_⟩
    rcases hw with rfl | ⟨t, rfl⟩
    · exact bRefl _
    · exact Lib.bytesWorld_below _ _ _
  | range =>
    obtain ⟨te, pe, hc⟩ := hG.rng
    refine (Any.strconv_Atoi_range numL172 s (by omega) e (.iface te pe) w hc (.inr ⟨_, _, rfl⟩)).mono ?_
    rintro r w' ⟨N, rfl, _, _, hb⟩
    exact ⟨.inr ⟨fun v h => by (cases h), _, _, _, rfl⟩, hb⟩
  | _ =>
    obtain ⟨te, pe, hc⟩ := hG.syn
    refine (Any.strconv_Atoi_syntax numL172 s (by omega) e (.iface te pe) w hc (.inr ⟨_, _, rfl⟩)).mono ?_
    rintro r w' ⟨N, rfl, _, _, hb⟩
    exact ⟨.inr ⟨fun v h => by (cases h), _, _, _, rfl⟩, hb⟩
def NumPost (o : Option Int) (w : World) (r : Ending) (w' : World) : Prop := (match o with | some n => r = .returned (.int .i64 n) | none => r = PanW) ∧ Below w.heap.size w w'
theorem NumPost.no {s : ByteArray} {w w' : World} (h : numO s.data.toList = none) (b : Below w.heap.size w w') : NumPost (numO s.data.toList) w PanW w' := by rw [h]; exact ⟨rfl, b⟩
theorem NumPost.yes {s : ByteArray} {n : Int} {w w' : World} (h : numO s.data.toList = some n) (b : Below w.heap.size w w') : NumPost (numO s.data.toList) w (.returned (.int .i64 n)) w' := by rw [h]; exact ⟨rfl, b⟩
theorem want_any (b : Bool) (w : World) : Calls Tryz.prog 55 #[.bool b] w (fun r w' => (b = true ∧ r = .returned (.tuple #[]) ∨ b = false ∧ r = PanW) ∧ w = w') := by
  cases b
  · exact (want_no w).mono (fun r w' h => ⟨.inr ⟨rfl, h.1⟩, h.2⟩)
  · exact (want_yes w).mono (fun r w' h => ⟨.inl ⟨rfl, h.1⟩, h.2⟩)
theorem num_none {s : By} (h : ∀ v, Lib.atoiAll s ≠ .ok v) : numO s = none := by
  unfold numO
  split
  · rename_i v e; exact absurd e (h v)
  · rfl
theorem num_no {s : By} {v : Int} (h : Lib.atoiAll s = .ok v) (h2 : okN v = false ∨ (itB v == s) = false) : numO s = none := by
  unfold numO
  rw [h]
  refine if_neg ?_
  rintro ⟨h3, h4⟩
  rcases h2 with h2 | h2
  · rw [h2] at h3; cases h3
  · rw [h4] at h2; simp at h2
theorem num_yes {s : By} {v : Int} (h : Lib.atoiAll s = .ok v) (h2 : okN v = true) (h3 : (itB v == s) = true) : numO s = some v := by
  unfold numO
  rw [h]
  exact if_pos ⟨h2, eq_of_beq h3⟩
theorem rep_number (B : Nat) (s : ByteArray) (W : World) (hs : s.size ≤ 1000000) (hG : LibG B W) (hB : B ≤ W.heap.size) : Calls Tryz.prog 132 #[.string s] W (NumPost (numO s.data.toList) W) := by
  have q1 := Lib.hid (atoi_any B s W hs hG)
  go_enter Tryz.func132, Tryz.ntmps132
  go_wp2_with (first | (go_at_call 147; (with_reducible refine q1.out.mono ?_); rintro r w1 ⟨(⟨v, hv, rfl⟩ | ⟨hv, v, t, x, rfl⟩), b1⟩) | (go_at_call 126; (with_reducible refine (itoa_any B _ _ (okN_iff.2 ⟨by assumption, by assumption⟩) (hG.later hB b1)).mono ?_); rintro e w2 ⟨rfl, b2⟩) | (go_at_call 55; (with_reducible refine (want_no _).mono ?_); rintro e w3 ⟨h9, rfl⟩; unfold PanW at h9; subst h9) | (go_at_call 55; (with_reducible refine (want_any _ _).mono ?_); rintro e w3 ⟨(⟨hq, rfl⟩ | ⟨hq, h9⟩), rfl⟩; rotate_left 1; (unfold PanW at h9; subst h9); rotate_left 1))
  · go_ret
    exact NumPost.yes (num_yes hv (okN_iff.2 ⟨by assumption, by assumption⟩) (by rwa [ByteArray.toList_eq] at hq)) (bCall b1 b2)
  · exact ⟨rfl, NumPost.no (num_no hv (.inr (by rwa [ByteArray.toList_eq] at hq))) (bCall b1 b2)⟩
  · exact ⟨rfl, NumPost.no (num_no hv (.inl (by unfold okN; exact decide_eq_false (by omega)))) b1⟩
  · exact ⟨rfl, NumPost.no (num_no hv (.inl (by unfold okN; exact decide_eq_false (by omega)))) b1⟩
  · exact ⟨rfl, NumPost.no (num_none hv) b1⟩
end Go.Proofs.YtmbopkcmbiommaaGreatDoor
