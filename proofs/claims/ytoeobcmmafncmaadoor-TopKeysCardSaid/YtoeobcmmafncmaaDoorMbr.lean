/-
  slices.AppendSeq and Collect of slices of bytes; walked.
-/
import Derived.Test.YtoeobcmmafncmaaDoorMbq
import Derived.RangeFuncBox
import Derived.OwnWalkIn
import Derived.Test.YtoeobcmmafncmaaDoorMbc
import Derived.Shelf.Bytes.SlJoin
import Derived.ArgAppend
namespace Go.Proofs.YtoeobcmmafncmaaDoor
open Go.RowKit
attribute [local go_sem] Oper.semAt_some

theorem Blk.not_row {W : World} {g : Nat} {t e : TypeId} {cs : Array Value} (h : Blk W g t cs) (hte : t ≠ e) {base size k : Nat} {v : Value} {xs : List Value} (hr : W.ownsRow base e size v k xs) : some g ≠ v.ownBlock := by
  rcases hr.2 with ⟨rfl, _⟩ | ⟨g2, cap, cur, rfl, _, hgb, _⟩
  · simp [Value.ownBlock]
  · intro e2
    have e3 : g = g2 := by simpa [Value.ownBlock] using e2
    subst e3
    unfold Blk at h
    rw [h] at hgb
    simp at hgb
    exact hte hgb.2
theorem TxAt.app {W w1 : World} {B n₀ k : Nat} {v x : Value} {t : List Nat} {xs : List Value} {tmp : Obj} {u v' : Value} (h : TxAt W x t) (hv : Blk W B 102 #[u]) (hrow : W.ownsRow n₀ 24 1 v k xs) (hgrow : (W.alloc tmp).grownBy w1 v.ownBlock) : TxAt (w1.setCell ⟨B, 0, none⟩ v') x t := by
  obtain ⟨g, cap, cur, hx, hB, h1⟩ := h
  refine ⟨g, cap, cur, hx, ?_, h1⟩
  have h2 : Blk w1 g 5 cur := (hgrow.block g (by simp; have := hB.lt; omega) (hB.not_row (by decide) hrow)).trans (hB.alloc tmp)
  exact h2.far (p := ⟨B, 0, none⟩) (hB.neT hv (by decide)) _
theorem KeepsC.of_below {B : Nat} {X Y : World} (h : Below B X Y) : KeepsC (fun k => k < B) X Y := ⟨h.size, fun k _ _ _ hk _ => h.block k hk⟩
theorem bytes_info : (Tryd.prog.info? 24).map (fun i => (i.zero, i.size, i.bytes)) = some (some (.slice none 0 0), 1, 24) := by kernel_rfl
theorem own_kept {W W' : World} {base : Nat} {e : TypeId} {size : Nat} {v : Value} {k : Nat} {xs : List Value} {row : Option Nat} {B : Nat} (h : W.ownsRow base e size v k xs) (hg : W.grownBy W' row) (hr : ∀ r, row = some r → B ≤ r ∧ ∃ o : Obj, W.heap[r]? = some o ∧ o.isCells = false) : W'.ownsRow base e size v k xs := by
  refine h.kept hg ?_
  rcases h.2 with ⟨rfl, _⟩ | ⟨g, cap, cur, rfl, _, hgb, _⟩
  · exact .inl rfl
  · refine .inr fun e' => ?_
    obtain ⟨_, o, ho, hw⟩ := hr g (by simpa [Value.ownBlock] using e'.symm)
    rw [hgb] at ho; cases ho; cases hw

/-- What has been gathered. -/
def GotAt (ts : List (List Nat)) (w : World) (pre : List Value) (W : World) : Prop := ∃ v, Blk W w.heap.size 102 #[v] ∧ W.ownsRow w.heap.size 24 1 v pre.length pre ∧ (∀ (k : Nat) (u : Value) (t : List Nat), pre[k]? = some u → ts[k]? = some t → TxAt W u t) ∧ Below w.heap.size w W
theorem GotAt.kept {ts : List (List Nat)} {w : World} {pre : List Value} {W W' : World} {row : Option Nat} {B : Nat} (h : GotAt ts w pre W) (hB : w.heap.size ≤ B) (hg : W.grownBy W' row) (hr : ∀ r, row = some r → B ≤ r ∧ ∃ o : Obj, W.heap[r]? = some o ∧ o.isCells = false) : GotAt ts w pre W' := by
  obtain ⟨v, h1, h2, h3, h4⟩ := h
  exact ⟨v, h1.kept hg hr, own_kept h2 hg hr, fun k u t hu ht => (h3 k u t hu ht).kept hg hr, bGrown h4 hg hB hr⟩
set_option maxRecDepth 100000 in
set_option maxHeartbeats 4000000 in
theorem col_append (gf : Nat) (lb : Array Value) (eg : ∀ args w, (callFunc gf args).run Tryd.prog w = .ok (.enter gf args) w) (ts : List (List Nat)) (w : World) (hn : ts.length ≤ 1000)
    (hseq : SeqG (2 + 1) Tryd.prog gf lb (fun v : Value => #[v]) (KeepsC (fun k => k < w.heap.size)) (fun ys => ys.length = ts.length) (fun _ => True) ts.length w (fun pre v W => ∃ t, ts[pre.length]? = some t ∧ TxAt W v t)) :
    Calls Tryd.prog 67 #[.slice none 0 0, .func (.func gf) #[] lb] w (fun e w' => ∃ (v : Value) (vs : List Value), e = .returned v ∧ vs.length = ts.length ∧ Below w.heap.size w w' ∧ w'.ownsRow w.heap.size 24 1 v vs.length vs ∧ ∀ (k : Nat) (u : Value) (t : List Nat), vs[k]? = some u → ts[k]? = some t → TxAt w' u t) := by
  refine calls_of_wp_dm Tryd.func67 rfl ?_
  simp only [Tryd.ntmps67, List.size_toArray, List.length_cons, List.length_nil, Nat.reduceAdd, Nat.reduceSub, Array.replicate_succ, Array.replicate_zero, List.push_toArray, List.append_toArray, List.nil_append, List.cons_append]
  go_wp2_with fail
  have hI0 : GotAt ts w [] (w.alloc (.cells #[.slice none 0 0] 102)) := ⟨_, Blk.new w _ _ _ rfl, World.ownsRow_nil _ _ _ _, fun k u t hu _ => by simp at hu, bAl (bRefl w) _⟩
  have hb0 : Below w.heap.size w (w.alloc (.cells #[.slice none 0 0] 102)) := bAl (bRefl w) _
  generalize w.alloc (.cells #[.slice none 0 0] 102) = w1 at *
  refine wp_rangeFuncG 2 (gf := gf) (lb := lb) rfl eg (w0 := w) hseq KeepsC.trans (fun W l o o' _ hl ho _ => KeepsC.put W l o o' hl ho) hb0 (fun _ => rfl)
      (fun pre W' => GotAt ts w pre W')
      (fun x a₁ pre W' => (GotAt ts w pre W' ∧ ∃ t, ts[pre.length]? = some t ∧ TxAt W' x t) ∧ a₁ = { tmps := #[.slice none 0 0, .func (.func gf) #[] lb, .pointer (some ⟨w.heap.size, 0, none⟩), undef, .slice none 0 0, x, .func (.func gf) #[] lb, x, undef, undef, undef, undef, undef], defers := [] })
      (fun _ _ _ => False)
      (fun pre A' B' row h hg hr => h.kept hb0.size hg hr)
      (fun x a pre A' B' row h hg hr => ⟨⟨h.1.1.kept hb0.size hg hr, by obtain ⟨t, ht, h2⟩ := h.1.2; exact ⟨t, ht, h2.kept hg hr⟩⟩, h.2⟩)
      (fun _ _ _ _ _ h _ _ => h)
      hI0 ?assign ?body ?done ?stop
  case assign =>
    rintro L pre x Wc hI ⟨t, ht, hT⟩ hlen
    gi_wp2
    exact ⟨KeepsOthers.refl _, KeepsC.refl _ _, ⟨hI, t, ht, hT⟩, trivial⟩
  case body =>
    rintro L pre x a₁ Wc ⟨⟨⟨v, hB, hown, hTs, hb⟩, t, ht, hT⟩, rfl⟩ hlen
    have d1 : Wc.cell? ⟨w.heap.size, 0, none⟩ = some v := hB.cell 0
    obtain ⟨i0, hi, hz0, hz1, hz2⟩ := info_parts bytes_info
    have hi' := Lib.hid hi
    have hz0' := Lib.hid hz0
    have hz1' := Lib.hid hz1
    have hz2' := Lib.hid hz2
    obtain ⟨gx, cx, curx, hxe, hx2⟩ := id hT
    have h63 : pre.length + 1 ≤ maxLen := by unfold maxLen; omega
    have hby : (pre.length + 1) * 24 ≤ 140737488355328 := by omega
    have hbs : w.heap.size ≤ (Wc.alloc (.cells #[x] 24)).heap.size := by have := hb.size; simp; omega
    subst hxe
    have hone : ∀ u ∈ [Value.slice (some ⟨gx, 0, none⟩) t.length cx], u.oneCell' = true := by intro u hu; simp at hu; subst hu; rfl
    clear hi hz0 hz1 hz2 hx2
    gi_wp2_with (gi_at_builtin; refine wpListIn_append_own _ (by rfl) (.tmp 8) (.tmp 10) 102 (by rfl) w.heap.size 24 i0 (.slice none 0 0) 1 24 Tryd.underlying102 hi'.out hz0'.out hz1'.out hz2'.out rfl (by decide) v pre.length pre (by rfl) (hown.alloc _) ⟨Wc.heap.size, 0, none⟩ 1 1 [.slice (some ⟨gx, 0, none⟩) t.length cx] (by rfl) (by rfl) (cell_one_new _ _ _) hone h63 hby hbs ?_; intro v' w3 hown3 hg3 _; obtain ⟨g', cap', rfl⟩ := ownsRow_succ hown3; obtain ⟨a1, a2, a3, a4, a5⟩ := Boxed.appended (B := w.heap.size) hB (by decide) hown hb.size (Nat.le_refl _) hown3 hg3; have d3 := a1.cell; have z3 := a1.frozen)
    refine ⟨a4, KeepsC.of_below a5, _, a2, by rw [List.length_append]; exact a3, fun k u s hu hs => ?_, hb.trans a5⟩
    by_cases hk : k < pre.length
    · rw [List.getElem?_append_left hk] at hu
      exact (hTs k u s hu hs).app hB hown hg3
    · rw [List.getElem?_append_right (by omega)] at hu
      have hk0 : k - pre.length = 0 := by
        rcases Nat.eq_zero_or_pos (k - pre.length) with h | h
        · exact h
        · obtain ⟨m, hm⟩ : ∃ m, k - pre.length = m + 1 := ⟨k - pre.length - 1, by omega⟩
          rw [hm] at hu; simp at hu
      have hke : k = pre.length := by omega
      subst hke
      rw [hk0] at hu
      simp at hu
      rw [ht] at hs
      injection hs with hs
      subst hs; subst hu
      exact hT.app hB hown hg3
  case done =>
    rintro D xs Wc hD hp ⟨v, hB, hown, hTs, hb⟩ hd
    have d1 : Wc.cell? ⟨w.heap.size, 0, none⟩ = some v := hB.cell 0
    go_wp2_with fail
    refine leavesM_mark (by simp) hd ?_
    refine ⟨v, by simp [results, Tryd.results67, go_sem], v, xs, rfl, hp, bPut hb (Nat.le_trans hb0.size hD) _, ownsRow_putObj hown _ hd rfl, fun k u t hu ht => (hTs k u t hu ht).kept (B := 0) (grownBy_putObj' Wc D _) (fun r e => by cases e; exact ⟨Nat.zero_le _, _, hd, rfl⟩)⟩
  case stop =>
    rintro D c' pre Wc _ _ h _
    exact h.elim
theorem col_collect (gf : Nat) (lb : Array Value) (eg : ∀ args w, (callFunc gf args).run Tryd.prog w = .ok (.enter gf args) w) (ts : List (List Nat)) (w : World) (hn : ts.length ≤ 1000)
    (hseq : SeqG (2 + 1) Tryd.prog gf lb (fun v : Value => #[v]) (KeepsC (fun k => k < w.heap.size)) (fun ys => ys.length = ts.length) (fun _ => True) ts.length w (fun pre v W => ∃ t, ts[pre.length]? = some t ∧ TxAt W v t)) :
    Calls Tryd.prog 38 #[.func (.func gf) #[] lb] w (fun e w' => ∃ (v : Value) (vs : List Value), e = .returned v ∧ vs.length = ts.length ∧ Below w.heap.size w w' ∧ w'.ownsRow w.heap.size 24 1 v vs.length vs ∧ ∀ (k : Nat) (u : Value) (t : List Nat), vs[k]? = some u → ts[k]? = some t → TxAt w' u t) := by
  have q := col_append gf lb eg ts w hn hseq
  clear hseq eg
  go_enter Tryd.func38, Tryd.ntmps38
  go_wp2_with fail
  (with_reducible refine q.mono ?_)
  rintro e w1 ⟨v, vs, rfl, h1, h2, h3, h4⟩
  clear q
  go_wp2_with fail
  go_ret
  exact ⟨v, vs, rfl, h1, h2, h3, h4⟩
end Go.Proofs.YtoeobcmmafncmaaDoor

/-
  bytes.Join by the kit's contract: the laying by hand; one part, two parts.
-/
namespace Go.Proofs.YtoeobcmmafncmaaDoor
open Go.RowKit

def joinR : Go.Shelf.Ren where
  f := fun k => if k = 14 then 100 else 101
  t := fun k => if k = 0 then 0 else if k = 3 then 3 else if k = 4 then 4 else if k = 9 then 9 else if k = 20 then 20 else if k = 22 then 24 else if k = 26 then 102 else 5
  g := fun k => k
set_option maxRecDepth 1000000 in
theorem joinL : SlLaysJ.n14 Tryd.prog joinR where
  mixed := by kernel_rfl
  f14 := by kernel_rfl
  f15 := by kernel_rfl
  t0 := by kernel_rfl
  a0 := by intro w; kernel_rfl
  z0 := by intro w; kernel_rfl
  v0 := by intro w; kernel_rfl
  t3 := by kernel_rfl
  a3 := by intro w; kernel_rfl
  z3 := by intro w; kernel_rfl
  v3 := by intro w; kernel_rfl
  t4 := by kernel_rfl
  a4 := by intro w; kernel_rfl
  z4 := by intro w; kernel_rfl
  v4 := by intro w; kernel_rfl
  t9 := by kernel_rfl
  a9 := by intro w; kernel_rfl
  z9 := by intro w; kernel_rfl
  v9 := by intro w; kernel_rfl
  t20 := by kernel_rfl
  a20 := by intro w; kernel_rfl
  z20 := by intro w; kernel_rfl
  v20 := by intro w; kernel_rfl
  t22 := by kernel_rfl
  a22 := by intro w; kernel_rfl
  z22 := by intro w; kernel_rfl
  v22 := by intro w; kernel_rfl
  t26 := by kernel_rfl
  a26 := by intro w; kernel_rfl
  z26 := by intro w; kernel_rfl
  v26 := by intro w; kernel_rfl
  t5 := by kernel_rfl
  z5 := by intro w; kernel_rfl
  i5 := by kernel_rfl

theorem dgB_len (d : List Nat) : (dgB d).length = d.length := by simp [dgB]
theorem dgB_get {d : List Nat} (ho : okB d) {i : Nat} {x : UInt8} (h : (dgB d)[i]? = some x) : d[i]? = some x.toNat := by
  unfold dgB at h
  rw [List.getElem?_map] at h
  cases hd : d[i]? with
  | none => rw [hd] at h; cases h
  | some n =>
    rw [hd] at h
    simp at h
    subst h
    have := ho n (List.mem_of_getElem? hd)
    simp [Nat.mod_eq_of_lt this]
theorem fresh_sl {B : Nat} {w' : World} {v : Value} {d : List Nat} (ho : okB d) (h0 : 0 < d.length) (h : Lib.FreshBytes B w' v (dgB d)) : Sl w' w'.heap.size 1 v d.length (byts d) := by
  obtain ⟨g, cap, zs, rfl, _, hl, hm, hz, hr, hb, hc, _⟩ := h
  rw [dgB_len] at hl
  have hcell : ∀ j u, (byts d)[j]? = some u → w'.cell? ⟨g, 0 + j, none⟩ = some u := by
    intro j u hu
    have hj : j < d.length := by
      have := (List.getElem?_eq_some_iff.1 hu).1
      rwa [byts_length] at this
    have e1 := hc j (by omega)
    have hzj : j < zs.length := by omega
    have e2 : zs.getD j 0 = zs[j] := by simp [List.getD, hzj]
    rw [Nat.zero_add, e1, e2]
    have hrg := hr zs[j] (List.getElem_mem hzj)
    have hbj : (dgB d)[j]? = some (UInt8.ofNat zs[j].toNat) := by
      rw [← hb]
      unfold Lib.bytesOf
      rw [List.getElem?_map, List.getElem?_take, if_pos (by rw [dgB_len]; exact hj), List.getElem?_eq_getElem hzj]
      rfl
    have := dgB_get ho hbj
    have hu2 := byts_at this
    rw [hu] at hu2
    have ez : ((UInt8.ofNat zs[j].toNat).toNat : Int) = zs[j] := by
      rw [UInt8.toNat_ofNat']
      omega
    rw [ez] at hu2
    exact hu2.symm
  refine ⟨_, _, by rw [dgB_len], ⟨by rw [byts_length, Nat.mul_one], fun _ => ⟨g, 0, rfl, ?_, hcell⟩⟩, hl, hm, fun h => by cases h⟩
  obtain ⟨x, hx⟩ : ∃ x, d[0]? = some x := ⟨_, List.getElem?_eq_getElem h0⟩
  have h1 := hcell 0 _ (byts_at hx)
  rw [Nat.zero_add] at h1
  unfold World.cell? at h1
  cases hh : w'.heap[g]? with
  | none => rw [show (⟨g, 0, none⟩ : Addr).block = g from rfl, hh] at h1; simp at h1
  | some o => exact (Array.getElem?_eq_some_iff.1 hh).1

theorem byts_u8 {d : List Nat} {i : Nat} {x : UInt8} (ho : okB d) (h : (dgB d)[i]? = some x) : (byts d)[i]? = some (.int .u8 (x.toNat : Int)) := byts_at (dgB_get ho h)
/-- One part. -/
theorem join_one (b o c : Nat) (A : Option Addr) (c0 : Nat) (d : List Nat) (W : World) (hcell : W.cell? ⟨b, o, none⟩ = some (.slice A d.length c0)) (hR : Rd W W.heap.size 1 A d.length (byts d)) (ho : okB d) (h0 : 0 < d.length) (hs : d.length ≤ 140737488355328) :
    Calls Tryd.prog 100 #[.slice (some ⟨b, o, none⟩) 1 c, .slice none 0 0] W (RetSl 1 d.length (byts d) W) := by
  obtain ⟨g, off, rfl, _, hc⟩ := hR.2 h0
  have q := Any.bytes_Join_one joinL b o c ⟨g, off, none⟩ c0 (dgB d) (.slice none 0 0) W (by rw [dgB_len]; exact hcell) (fun i x hx => by rw [addr_plus]; exact hc i _ (byts_u8 ho hx)) (by rw [dgB_len]; exact h0) (by rw [dgB_len]; exact hs)
  refine Calls.mono q ?_
  rintro e w' ⟨v, rfl, hf, hb⟩
  exact ⟨v, rfl, hb, fresh_sl ho h0 hf⟩
/-- Two parts. -/
theorem join_two (b o c : Nat) (A B : Option Addr) (ca cb : Nat) (d f : List Nat) (W : World) (k1 : W.cell? ⟨b, o, none⟩ = some (.slice A d.length ca)) (k2 : W.cell? ⟨b, o + 1, none⟩ = some (.slice B f.length cb)) (hA : Rd W W.heap.size 1 A d.length (byts d)) (hB : Rd W W.heap.size 1 B f.length (byts f))
    (ho : okB d) (hf : okB f) (h0 : 0 < d.length) (h1 : 0 < f.length) (hs : d.length + f.length ≤ 140737488355328) (h2 : 2 ≤ c) :
    Calls Tryd.prog 100 #[.slice (some ⟨b, o, none⟩) 2 c, .slice none 0 0] W (RetSl 1 (d ++ f).length (byts (d ++ f)) W) := by
  obtain ⟨g, off, rfl, _, hc⟩ := hA.2 h0
  obtain ⟨g2, off2, rfl, _, hc2⟩ := hB.2 h1
  have q := Any.bytes_Join_many joinL b o 2 c [.slice (some ⟨g, off, none⟩) d.length ca, .slice (some ⟨g2, off2, none⟩) f.length cb] [dgB d, dgB f] (.slice none 0 0) [] W rfl (by omega) ⟨rfl, fun i v hv => (by
      rw [addr_plus]
      match i, hv with
      | 0, hv => simp at hv; subst hv; exact k1
      | 1, hv => simp at hv; subst hv; exact k2
      | i + 2, hv => simp at hv), fun i v l hv hl => (by
      match i, hv, hl with
      | 0, hv, hl => simp at hv hl; subst hv; subst hl; exact ⟨some ⟨g, off, none⟩, ca, by rw [dgB_len], (fun h => by cases h), fun a ha i x hx => by injection ha with ha; subst ha; rw [addr_plus]; exact hc i _ (byts_u8 ho hx)⟩
      | 1, hv, hl => simp at hv hl; subst hv; subst hl; exact ⟨some ⟨g2, off2, none⟩, cb, by rw [dgB_len], (fun h => by cases h), fun a ha i x hx => by injection ha with ha; subst ha; rw [addr_plus]; exact hc2 i _ (byts_u8 hf hx)⟩
      | i + 2, hv, hl => simp at hv)⟩ h2 ⟨none, 0, rfl, fun _ => rfl, fun a ha => by cases ha⟩ (by omega) (by simp [Lib.lens, dgB_len]; omega)
  refine Calls.mono q ?_
  rintro e w' ⟨v, rfl, hfr, hb⟩
  have hj : Lib.join [dgB d, dgB f] [] = dgB (d ++ f) := by simp [Lib.join, List.intercalate, dgB]
  rw [hj] at hfr
  exact ⟨v, rfl, hb, fresh_sl (okB_app ho hf) (by simp; omega) hfr⟩
end Go.Proofs.YtoeobcmmafncmaaDoor
