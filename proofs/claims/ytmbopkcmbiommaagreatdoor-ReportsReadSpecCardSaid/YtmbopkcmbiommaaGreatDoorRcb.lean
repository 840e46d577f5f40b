/- frankinglaw59.ReportsReadSpec, walked. -/
import Derived.Test.YtmbopkcmbiommaaGreatDoorRbw
import Derived.Test.YtmbopkcmbiommaaGreatDoorRbz
import Derived.Test.YtmbopkcmbiommaaGreatDoorRows
import Derived.Test.YtmbopkcmbiommaaGreatDoorTie
import Derived.Test.YtmbopkcmbiommaaGreatDoorCards
import Derived.Test.YtmbopkcmbiommaaGreatDoorRad
import Derived.Test.YtmbopkcmbiommaaGreatDoorRao
import Derived.Test.YtmbopkcmbiommaaGreatDoorRat
import Derived.Handed
import Derived.LaidLaws
import Derived.LaidHandle
import Derived.SevenTiedAt
import Derived.ChangeSame
import Derived.ChangeVars
import Derived.ChangeMaps5
import Derived.JoinedOf
import Derived.RowKit
import Derived.FnData
import Derived.Lib.LaidIn
import Derived.Lib.LaidTab
import Derived.Stop.LaidErr
import Derived.Shelf.Vars
set_option maxRecDepth 1000000
set_option maxHeartbeats 16000000
namespace Go.Proofs.YtmbopkcmbiommaaGreatDoor
open Go Go.RowKit
theorem read_low {src : ByteArray} {x : Wld} {n : Nat} {e : Int} (h : readV src.data.toList = (x, n, e)) (hs : src.size ≤ 3000) : x.small := by
  by_cases he : e = 0
  · subst he
    have e1 : src.data.toList.length = src.size := by rw [Array.length_toList]; rfl
    exact read_small h (by omega)
  · rw [(read_no h he).1]
    exact small_zero
theorem lw_readspec (src : ByteArray) (W : World) (hG : LibG W.heap.size W) : Calls Tryz.prog 4 #[.string src] W (Ret (.bool true) W) := by
  have hG1 : Hid (∀ w, Below W.heap.size W w → LibG w.heap.size w) := Lib.hid (fun w b => (hG.below b).more b.size)
  have qs := law_sane W hG
  clear hG
  go_enter Tryz.func4, Tryz.ntmps4
  go_upto_region 3 with (go_at_call 8; (with_reducible refine qs.mono ?_); rintro e w2 ⟨rfl, b2⟩)
  clear qs
  by_cases hl : 3000 < src.size
  · have hl1 : (3000 : Int) < (src.size : Int) := by omega
    clear hl
    go_wp2_with fail
    go_ret
    exact ⟨rfl, b2⟩
  have hl1 : ¬ (3000 : Int) < (src.size : Int) := by omega
  obtain ⟨⟨x, n, e⟩, hv⟩ : ∃ p, Hid (readV src.data.toList = p) := ⟨_, Lib.hid rfl⟩
  go_upto_region 5 with fail
  have q1 := read_is src (x, n, e) w2 hv.out (by omega) (hG1.out w2 b2)
  have q2 : Hid (∀ w, Calls Tryz.prog 13 #[.string src] w (RefR (x, n, e) w)) := Lib.hid (fun w => by have := ref_read src w (by omega); rw [hv.out] at this; exact this)
  have hsm : Hid x.small := Lib.hid (read_low hv.out (by omega))
  have hsd := hsm.out.seed
  clear hl hl1 hv
  go_wp2_with fail
  (with_reducible refine q1.mono ?_)
  rintro e9 w3 ⟨s, rfl, hW3, b3, -⟩
  dsimp only at hW3 ⊢
  have hst := store_newW (P := Tryz.prog) (w := w3) (t := 35) (ty := 35) (old := (nilWS.cl zeroW).toArray) (X := (s.cl x).toArray) (by rw [wsCl_size hsd]; exact world_info) (by rw [wsCl_size hsd]; rfl) wsCl_one
  have BS := Blk.new w3 35 (s.cl x).toArray _ rfl
  have hb5 := bAl (bCall b2 b3) (.cells (s.cl x).toArray 35)
  have hWA := (hW3.below (bAl (bRefl w3) (.cells (s.cl x).toArray 35))).more (show w3.heap.size ≤ (w3.alloc (.cells (s.cl x).toArray 35)).heap.size by simp)
  have LL : Hid (∀ w' g, Blk w' g 35 (s.cl x).toArray → (Instr.loadAt 35 (.pointer (some ⟨g, 0, none⟩))).run Tryz.prog w' = .ok (.agg (s.cl x).toArray) w') := Lib.hid (fun _ _ B => whole_ld hsd B)
  iterate 16 go_step
  refine wpList_storeG (by rfl) (by rfl) (by rfl) (by rfl) hst ?_
  simp only [Act.put]
  clear hst
  have hWB : Hid (∀ w, Below (w3.alloc (.cells (s.cl x).toArray 35)).heap.size (w3.alloc (.cells (s.cl x).toArray 35)) w → WldAt w w.heap.size s x) := Lib.hid (fun w b => (hWA.below b).more b.size)
  have qe : Hid (∀ s2 w, WldAt w w.heap.size s x → WldAt w w.heap.size s2 x → Calls Tryz.prog 14 #[.agg (s.cl x).toArray, .agg (s2.cl x).toArray] w (Ret (.bool true) w)) := Lib.hid (fun s2 w h1 h2 => ref_same x s s2 w h1 h2 hsm.out)
  generalize (s.cl x).toArray = Y at *
  clear hW3 hWA b3 q1 hG1 hsm b2
  generalize hg3 : w3.heap.size = g3 at *
  generalize w3.alloc (.cells Y 35) = w4 at *
  go_upto_region 6 with fail
  go_wp2_with fail
  (with_reducible refine (q2.out w4).mono ?_)
  rintro e9 w5 ⟨s2, rfl, hW5, b5⟩
  dsimp only at hW5 ⊢
  have hst := store_newW (P := Tryz.prog) (w := w5) (t := 35) (ty := 35) (old := (nilWS.cl zeroW).toArray) (X := (s2.cl x).toArray) (by rw [wsCl_size hsd]; exact world_info) (by rw [wsCl_size hsd]; rfl) wsCl_one
  have BR := Blk.new w5 35 (s2.cl x).toArray _ rfl
  have bb := bAl b5 (.cells (s2.cl x).toArray 35)
  have hb6 := bAl (bCall hb5 b5) (.cells (s2.cl x).toArray 35)
  have BS6 := (BS.below b5 BS.lt).alloc (.cells (s2.cl x).toArray 35)
  have LL2 : Hid (∀ w' g, Blk w' g 35 (s2.cl x).toArray → (Instr.loadAt 35 (.pointer (some ⟨g, 0, none⟩))).run Tryz.prog w' = .ok (.agg (s2.cl x).toArray) w') := Lib.hid (fun _ _ B => whole_ld hsd B)
  have q6 := qe.out s2 _ (hWB.out _ bb) ((hW5.below (bAl (bRefl w5) (.cells (s2.cl x).toArray 35))).more (show w5.heap.size ≤ (w5.alloc (.cells (s2.cl x).toArray 35)).heap.size by simp))
  iterate 16 go_step
  refine wpList_storeG (by rfl) (by rfl) (by rfl) (by rfl) hst ?_
  simp only [Act.put]
  clear hst
  generalize (s2.cl x).toArray = Y2 at *
  clear hW5 hWB qe q2 bb b5 BS hb5
  generalize hg5 : w5.heap.size = g5 at *
  generalize w5.alloc (.cells Y2 35) = w6 at *
  go_upto_region 7 with fail
  apply wp_region_lit
  refine wpList_loadG (by rfl) (by rfl) (by rfl) (LL.out _ _ BS6) ?_
  simp only [Act.put]
  refine wpList_loadG (by rfl) (by rfl) (by rfl) (LL2.out _ _ BR) ?_
  simp only [Act.put]
  go_wp2_with (go_at_call 14; (with_reducible refine q6.mono ?_); rintro e8 w7 ⟨rfl, b7⟩)
  go_ret
  exact ⟨rfl, bCall hb6 b7⟩
end Go.Proofs.YtmbopkcmbiommaaGreatDoor
namespace Go.Proofs.YtmbopkcmbiommaaGreatDoor
open Go Go.ChangeShapes Go.WideShapes Go.RowKit
section
variable {H : Type} {enc : TypeId × Value → H}
theorem returns_shaped {a : Assume} {C : Checked} {os : Os} {f : FuncId} {fn : Func} {s : ChangeSpec} {conds : List PathCond} {apart fresh handsOn again : Bool} {X : World → Array Value → Prop}
    (hX : ∀ (w w' : World) (args : Array Value), w.heap = w'.heap → X w args → X w' args)
    (own : ownKnob C.prog.godebug = none) (started : os.Started) (noInit : C.prog.inits.idxOf? f = none) (hfn : C.prog.funcs[f]? = some fn)
    (witness : ∃ (w : World) (tape : Tape) (i : Input), w.os = os ∧ (w.forCall tape i).Shaped C.prog ∧ i.vars = [] ∧ Input.okWide C.prog (w.forCall tape i) .any w.heap.size f i ∧
      ((s.pre enc C.prog fn conds apart (w.forCall tape i).memory i.args ∧ X (w.forCall tape i).memory i.args) ∧ sizedMet enc C.prog fn (OpenSpec.ofChange s) apart (w.forCall tape i).memory i.args) ∧ a.holds C.prog (lone (Frame.enter C.prog f i.args .normal) [] (w.forCall tape i)))
    (contract : ∀ (W : World) (base : Nat) (args : Array Value) (ds gs : List (DataW H)) (before : List MemPlace),
      (∀ (j : Nat) t v, fn.params[j]? = some t → args[j]? = some v → Value.okWide C.prog W .any base t v) →
      DataW.Whole enc C.prog fn.params.toList s.vars apart W args.toList ds gs before →
      (DataW.weightsEach C.prog (fn.params.toList ++ s.plain.varTypes C.prog) (ds ++ gs)).all (· ≤ reachBytes) = true → X W args → W.ShapedOpen C.prog →
      Calls C.prog f args W fun e W' => ∃ v, e = .returned v ∧ s.post enc C.prog fn apart fresh handsOn again W args v W') :
    ReturnsInHanded a C os f .any (fun w args => (s.pre enc C.prog fn conds apart w args ∧ X w args) ∧ sizedMet enc C.prog fn (OpenSpec.ofChange s) apart w args) (s.post enc C.prog fn apart fresh handsOn again) := by
  refine returnsInHanded_of_calls own started noInit witness ?_
  intro w tape i _ hsh _ hok hpre _
  obtain ⟨_, _, _, fn', hfn', _, _, _, _, hval⟩ := hok
  have e : fn' = fn := Option.some.inj (hfn'.symm.trans hfn)
  subst e
  obtain ⟨⟨⟨ds, gs, before, hw, _⟩, hx⟩, hz⟩ := hpre
  have hw' := DataW.Whole.of_heap (w' := w.forCall tape i) (by rfl) hw
  refine (contract (w.forCall tape i) w.heap.size i.args ds gs before hval hw' (hz.weights hw) (hX _ _ _ (by rfl) hx) hsh).mono fun e W' ⟨v, he, hp⟩ => ?_
  subst he
  exact ChangeSpec.post_blind hp
end
theorem trodAll_stays {H : Type} {enc : TypeId × Value → H} {W W' : World} (hb : Below W.heap.size W W') : ∀ {ts : List TypeId} {vs : List Value} {ds : List (DataW H)} {ps : List MemPlace},
    (∀ t ∈ ts, Tryz.prog.readableRec t = true ∧ t < Tryz.prog.types.size) → DataW.TrodAll enc Tryz.prog W 0 (fun _ => true) true ts vs ds ps → DataW.TrodAll enc Tryz.prog W' 0 (fun b => decide (b < W.heap.size)) true ts vs ds ps
  | [], [], [], _, _, h => h
  | t :: ts, v :: vs, d :: ds, ps, hr, h => by
    obtain ⟨p, q, h1, h2, rfl⟩ := h
    obtain ⟨r1, r2⟩ := hr t (by simp)
    exact ⟨p, q, Below.trod laid_out r1 r2 h1 hb (by obtain ⟨m, hm⟩ := h1; exact DataW.trod_lt m _ _ _ hm), trodAll_stays hb (fun t ht => hr t (by simp [ht])) h2, rfl⟩
  | [], _ :: _, _, _, _, h => by cases h
  | [], [], _ :: _, _, _, h => by cases h
  | _ :: _, [], _, _, _, h => by cases h
  | _ :: _, _ :: _, [], _, _, h => by cases h
noncomputable def repLaid : List (String × DataW Unit) := [("math/bits.deBruijn32tab", Rows.laid_math_bits_deBruijn32tab), ("math/bits.deBruijn64tab", Rows.laid_math_bits_deBruijn64tab), ("internal/strconv.uint64pow10", Rows.laid_internal_strconv_uint64pow10), ("unicode/utf8.acceptRanges", Rows.laid_unicode_utf8_acceptRanges), ("strconv.ErrRange", Rows.laid_strconv_ErrRange), ("strconv.ErrSyntax", Rows.laid_strconv_ErrSyntax), ("unicode/utf8.first", Rows.laid_unicode_utf8_first)]
theorem star_err : "*" ++ "errors.errorString" = "*errors.errorString" := by decide
theorem row_err (u : TypeId) (h : Tryz.prog.typeName? 3 u = some "*errors.errorString") : u = 226 :=
  typeName_ptr_named (nm := "errors.errorString") (by rw [star_err]; kernel_rfl) (by kernel_rfl) (by decide) u (by rw [star_err]; exact h)
theorem cell_lt {w : World} {g i : Nat} {v : Value} (h : w.cell? ⟨g, i, none⟩ = some v) : g < w.heap.size := by
  unfold World.cell? at h
  cases hh : w.heap[g]? with
  | none => simp [hh] at h
  | some o => exact (Array.getElem?_eq_some_iff.1 hh).1
theorem glob_pow : Tryz.prog.globalNamed "internal/strconv.uint64pow10" = some 3 := by kernel_rfl
theorem glob_rng : Tryz.prog.globalNamed "strconv.ErrRange" = some 5 := by kernel_rfl
theorem glob_syn : Tryz.prog.globalNamed "strconv.ErrSyntax" = some 4 := by kernel_rfl
theorem lib_of_laid {w : World} (h : laidMetH Tryz.prog repLaid w) (hsh : w.ShapedOpen Tryz.prog) : LibG w.heap.size w := by
  have h0 : laidMet Tryz.prog repLaid w := h
  have h2 := h0.tail.tail
  have h4 := h2.tail.tail
  have h5 := h4.tail
  obtain ⟨tp, htp⟩ : ∃ t, (Tryz.prog.globals[3]?).map (·.type) = some t := ⟨_, rfl⟩
  have hp : Lib.TabIs Tryz.prog w "internal/strconv.uint64pow10" .u64 Lib.pow10Tab := Lib.tabIs_of_head (zs := Lib.pow10Tab) (rest := repLaid.drop 3) (n := 20) (e := 204) glob_pow htp (by obtain rfl := Option.some.inj htp; kernel_rfl) Tryz.underlying204 (by kernel_rfl) (by obtain rfl := Option.some.inj htp; kernel_rfl) h2
  obtain ⟨a0, s0, hv0, -, -, -⟩ := laid_sentinel (r := repLaid.drop 5) h4 glob_rng (by kernel_rfl) Tryz.underlying111 row_err Tryz.underlying226 Tryz.underlying228 rfl rfl Tryz.underlying9 (by kernel_rfl) (by kernel_rfl)
  obtain ⟨a1, s1, hv1, -, -, -⟩ := laid_sentinel (r := repLaid.drop 6) h5 glob_syn (by kernel_rfl) Tryz.underlying111 row_err Tryz.underlying226 Tryz.underlying228 rfl rfl Tryz.underlying9 (by kernel_rfl) (by kernel_rfl)
  have c0 := World.var?_cell glob_rng hv0 0
  have c1 := World.var?_cell glob_syn hv1 0
  have cp := Lib.TabIs.cell hp glob_pow 0 (by decide)
  obtain ⟨m, hm⟩ := Go.Proofs.cell_of_shapedOpen_int (zero := #[.int .i64 0]) (g := 0) (t := 3) hsh (of_decide_eq_true (by kernel_rfl)) (by kernel_rfl) rfl (by kernel_rfl) (by kernel_rfl) Tryz.underlying3
  refine ⟨hp, ⟨_, _, by simpa using c1⟩, ⟨_, _, by simpa using c0⟩, ⟨m, hm⟩, cell_lt cp, cell_lt (by simpa using c1), cell_lt (by simpa using c0), cell_lt hm⟩
def litC : DataW Unit → List Value
  | .lit (.int k n) => [.int k n]
  | .agg l => l.flatMap (fun d => match d with
    | .lit (.int k n) => [.int k n]
    | .agg m => m.flatMap (fun e => match e with
      | .lit (.int k n) => [.int k n]
      | _ => [])
    | _ => [])
  | _ => []
noncomputable def laidWorldR (os : Os) : World :=
  let N := (World.settled Tryz.prog os).heap.size
  let w0 := World.holding Tryz.prog os ⟨#[.cells #[.string ⟨#[118, 97, 108, 117, 101, 32, 111, 117, 116, 32, 111, 102, 32, 114, 97, 110, 103, 101]⟩] 228, .cells #[.string ⟨#[105, 110, 118, 97, 108, 105, 100, 32, 115, 121, 110, 116, 97, 120]⟩] 228], #[], []⟩
  let put (h : Array Obj) (g : Nat) (cs : Array Value) : Array Obj := h.modify g fun
    | .cells _ t frozen => .cells cs t frozen
    | o => o
  let h0 := put (put w0.heap 5 #[.iface 226 (.pointer (some ⟨N, 0, none⟩))]) 4 #[.iface 226 (.pointer (some ⟨N + 1, 0, none⟩))]
  let h1 := put (put h0 6 (litC Rows.laid_math_bits_deBruijn32tab).toArray) 7 (litC Rows.laid_math_bits_deBruijn64tab).toArray
  let h2 := put (put h1 3 (litC Rows.laid_internal_strconv_uint64pow10).toArray) 2 (litC Rows.laid_unicode_utf8_acceptRanges).toArray
  let h3 := put h2 1 (litC Rows.laid_unicode_utf8_first).toArray
  { w0 with heap := h3 }
noncomputable abbrev setN : Nat := (World.settled Tryz.prog default).heap.size
end Go.Proofs.YtmbopkcmbiommaaGreatDoor
