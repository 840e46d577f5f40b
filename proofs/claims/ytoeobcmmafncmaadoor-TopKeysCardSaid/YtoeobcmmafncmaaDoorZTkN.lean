/-
  frankingtop.TopKeys, walked where its guards let it go on.
-/
import Derived.Test.YtoeobcmmafncmaaDoorMbw
import Derived.Test.YtoeobcmmafncmaaDoorMay
import Derived.Test.YtoeobcmmafncmaaDoorMbo
import Derived.Test.YtoeobcmmafncmaaDoorMbi
namespace Go.Proofs.YtoeobcmmafncmaaDoor
open Go.RowKit

theorem ep_info : (Tryd.prog.info? 43).map (fun i => (i.zero, i.size, i.bytes)) = some (some (.agg #[.int .i64 0, .int .i64 0, .int .i64 0]), 3, 24) := by kernel_rfl
theorem pubE_ok {s : Int} (h : secB s = true) : pubE s = 0 := by
  unfold pubE powE
  rw [if_pos h, if_pos valid_four]
theorem rest_ends {l : List Int} (hv : ∀ k ∈ l, validB k = true) : (restL l)[0]? = some (joinV l) ∧ (restL l)[l.length]? = some 1 ∧ joinE l = 0 ∧ validB (joinV l) = true := by
  obtain ⟨h1, h2⟩ := join_rest hv
  have hl := restL_length l
  have g0 : (restL l)[0]? = some ((restL l).getD 0 0) := by rw [List.getD_eq_getElem?_getD, List.getElem?_eq_getElem (by omega)]; rfl
  have gn : (restL l)[l.length]? = some ((restL l).getD l.length 0) := by rw [List.getD_eq_getElem?_getD, List.getElem?_eq_getElem (by omega)]; rfl
  rw [restL_last] at gn
  refine ⟨by rw [g0, h1], gn, h2, ?_⟩
  rw [h1]
  exact restL_valid hv _ (List.mem_of_getElem? g0)
/-- A letter that is sealed. -/
def sealW (J : Int) (words rs : List Wd) (i : Nat) : Ltr := moreL J (rs.getD i ⟨0, 0, 0⟩).x (rs.getD i ⟨0, 0, 0⟩).y (rs.getD i ⟨0, 0, 0⟩).z (seal0 (words.getD i ⟨0, 0, 0⟩).x (words.getD i ⟨0, 0, 0⟩).y (words.getD i ⟨0, 0, 0⟩).z)
def sealWs (J : Int) (words rs : List Wd) (k : Nat) : List Ltr := (List.range k).map (sealW J words rs)
theorem sealWs_succ (J : Int) (words rs : List Wd) (k : Nat) : sealWs J words rs (k + 1) = sealWs J words rs k ++ [sealW J words rs k] := by simp [sealWs, List.range_succ]
theorem sealWs_length (J : Int) (words rs : List Wd) (k : Nat) : (sealWs J words rs k).length = k := by simp [sealWs]
def wordsOk (words : List Wd) (k : Nat) : Prop := ∀ i, i < k → (words.getD i ⟨0, 0, 0⟩).ok
theorem sealWs_chk {J : Int} {words rs : List Wd} {k : Nat} (hJ : validB J = true) (hk : k ≤ 3) (h : wordsOk words k) : chkL (sealWs J words rs k) = 0 := by
  refine chkL_ok.2 ⟨by rw [sealWs_length]; omega, ?_⟩
  rw [List.all_eq_true]
  intro x hx
  obtain ⟨i, hi, rfl⟩ := List.mem_map.1 hx
  exact seal_good hJ (h i (List.mem_range.1 hi))
theorem sealE_cases {J : Int} (hJ : validB J = true) (w : Wd) : sealB w.x w.y w.z = false ∧ sealE J w.x w.y w.z = 100 ∨ sealB w.x w.y w.z = true ∧ sealE J w.x w.y w.z = 0 := by
  unfold sealE
  rw [if_pos hJ]
  cases h : sealB w.x w.y w.z
  · exact .inl ⟨rfl, if_neg (by simp)⟩
  · exact .inr ⟨rfl, if_pos rfl⟩
theorem sealV_is {J : Int} (hJ : validB J = true) {w : Wd} (h : sealB w.x w.y w.z = true) (r : Wd) : sealV J w.x w.y w.z r.x r.y r.z = moreL J r.x r.y r.z (seal0 w.x w.y w.z) := by
  unfold sealV
  rw [if_pos hJ, if_pos h]
theorem take_mem {x y t : Nat} {L : List Nat} (h : L[t]? = some y) : decide (x ∈ L.take (t + 1)) = (decide (x ∈ L.take t) || decide (y = x)) := by
  obtain ⟨hl, rfl⟩ := List.getElem?_eq_some_iff.1 h
  rw [List.take_succ_eq_append_getElem hl, ← Bool.decide_or]
  apply decide_eq_decide.2
  rw [List.mem_append, List.mem_singleton]
  exact ⟨fun h => h.imp id Eq.symm, fun h => h.imp id Eq.symm⟩
theorem nodup_snoc {x : Nat} {L : List Nat} (h : L.Nodup) (hx : x ∉ L) : (L ++ [x]).Nodup := by
  rw [List.nodup_append]
  exact ⟨h, by simp, fun a ha b hb e => by
    have h1 : b = x := by simpa using hb
    exact hx (by rw [← h1, ← e]; exact ha)⟩
theorem rec_back {sN : Nat} {m : List Int} {sh : Nat → Nat × Nat} {L : List Nat} (hsh : ∀ x, sh x = (x, polN sN m x)) (hs : sN < 1073741789) (hl : m.length < L.length) (hd : L.Nodup) (hx : ∀ x ∈ L, 1 ≤ x ∧ x ≤ 6) :
    recN pwQ ((L.map sh).map fun p => p.1) (L.map sh) 0 = sN ∧ (∀ p ∈ L.map sh, (1 ≤ p.1 ∧ p.1 ≤ 24) ∧ p.2 < 1073741789) ∧ ((L.map sh).map fun p => p.1).Nodup := by
  have e : ((L.map sh).map fun p => p.1) = L := by
    rw [List.map_map]
    conv => rhs; rw [← List.map_id L]
    apply List.map_congr_left
    intro x _
    show (sh x).1 = x
    rw [hsh]
  have hm : ∀ p ∈ L.map sh, ∃ x ∈ L, p = (x, polN sN m x) := fun p hp => by
    obtain ⟨x, h1, rfl⟩ := List.mem_map.1 hp
    exact ⟨x, h1, hsh x⟩
  refine ⟨?_, fun p hp => ?_, by rw [e]; exact hd⟩
  · have h := recover_is (secret := sN) (more := m) (l := L.map sh) hs (by simpa using hl) (by rw [e]; exact hd) (fun p hp => by obtain ⟨x, h1, rfl⟩ := hm p hp; have := hx x h1; show x < 1073741789; omega) (fun p hp => by obtain ⟨x, h1, rfl⟩ := hm p hp; rfl) (recN_lt _ _ _ (by omega))
    have hp : pwQ = (fun b => b ^ expQ % Qn) := rfl
    rw [hp]
    exact h
  · obtain ⟨x, h1, rfl⟩ := hm p hp
    have := hx x h1
    exact ⟨⟨by show 1 ≤ x; omega, by show x ≤ 24; omega⟩, polN_lt _ _ _⟩
theorem ltrs_len (l : List Ltr) : (l.flatMap Ltr.cl).length = l.length * 6 := by
  induction l with
  | nil => rfl
  | cons x l ih => rw [List.flatMap_cons, List.length_append, ih, List.length_cons]; show 6 + _ = _; omega
/-- In the end all letters say their words. -/
theorem tk_says {ss : List Int} {words rs : List Wd} {J : Int} (hs : ∀ s ∈ ss, secB s = true) (hJ : joinV (ss.map pubV) = J) (hw : wordsOk words words.length) : ∀ (i : Nat) (x : Wd), words[i]? = some x → ∃ y, (bareLast ss (sealWs J words rs words.length))[i]? = some y ∧ y.good = true ∧ readV y = x := by
  intro i x hx
  have hkv : ∀ k ∈ ss.map pubV, validB k = true := fun k hk => by obtain ⟨s, h1, rfl⟩ := List.mem_map.1 hk; exact pub_valid (hs s h1)
  have hJv : validB J = true := by rw [← hJ]; exact (rest_ends hkv).2.2.2
  have hi : i < words.length := (List.getElem?_eq_some_iff.1 hx).1
  have hg : words.getD i ⟨0, 0, 0⟩ = x := by rw [List.getD_eq_getElem?_getD, hx]; rfl
  have hok : x.ok := hg ▸ hw i hi
  have e : (sealWs J words rs words.length)[i]? = some (sealW J words rs i) := by unfold sealWs; rw [List.getElem?_map, List.getElem?_range hi]; rfl
  refine bare_says hok hs e ?_ ?_
  · unfold sealW; rw [hg]; exact seal_good hJv hok
  · rw [← (join_rest hkv).1, hJ]; unfold sealW; rw [hg]; exact enc_seal x
theorem key_was {f : Int} {ss : List Int} {n i : Nat} (hi : i < n) (h0 : 0 ≤ f) : ∃ kk, keyF (2 * (i : Int)) (max 0 (f - 1)) (epsOf f ss n) (0, false) = (kk, f == 0) := by
  rw [keyF_one hi]
  by_cases h : f = 0
  · subst h
    exact ⟨_, by rw [if_neg (by omega)]; rfl⟩
  · refine ⟨0, ?_⟩
    rw [if_pos (by omega), beq_eq_false_iff_ne.2 h]
theorem key_is {f : Int} {ss : List Int} {n i : Nat} (hi : i < n) : keyF (2 * (i : Int)) f (epsOf f ss n) (0, false) = (pubV (ss.getD i 0), true) := by
  rw [keyF_one hi, if_neg (by omega)]
def msk : List Bool := [false, false, false, false, false, false, false, false, false, false, false, false, false, false, false, false, false, false, false, false, false, false, false, false, false, false, false, false, false, true, false, false, false, false, true, true, true, true, true, true, true, true, true, true, true, true, true, true, true, true, true, true, true, true, true, true, true, true, true, true, true, true, true, false, false, false, false, false, false, false, false, false, false, false, false, false, false, false, false, false, false, false, false, false, false, false, false, false, false, false, false, false, false, false, false, false, false, false, false, false, false, false, false, false, false, false, false, false, false, false, false, false, false, false, false, false, false, false, false, false, false, false, false, false, false, false, false, false, false, false, false, false, false, false, false, false, false, false, false, false, false, false, false, false, false, false, false, false, false, false, false, false, false, false, false, false, false, false, false, false, false, false, false, false, false, false, false, false, false, false, false, false, false, false, false, false, false, false, false, false, false, false, false, false, false, false, false, false, false, false, false, false, false, false, false, false, false, false, false, false, false, false, false, false, false, false, false, false, false, false, false, true, true, true, true, true, true, true, true, true, true, true, true, true, true, true, true, true, true, true, true, true, true, true, true, true, true, true, true, true, true, true, true, true, true, true, true, true, true, true, true, true, true, true, true, true, true, true, true, true, true, true, true, true, true, true, true, true, true, true, true, true, true, true, true, true, true, true, true, true, true, true, true, true, true, true, true, true, true, true, true, true, true, true, true, true, true, true, true, true, true, true, true, true, true, true, true, true, true, true, true, true, true, true, true, true, true, true, true, true, true, true, true, true, true, true, true, true, true, true, true, true, true, true, true, true, true, true, true, true, true, true, true, true, true, true, true, true, true, true, true, true, true, true, true, true, true, true, true, true, true, true, true, true, true, true, true, true, true, true, true, true, true, true, true, true, true, true, true, true, true, true, true, true, true, true, true, true, true, true, true, true, true, true, true, true, true, true, true, true, true, true, true, true, true, true, true, true, true, true, true, true, true, true, true, true, true, true, true, true, true, true, true, true, true, true, true, true, true, true, true, true, true, true, true, true, true, true, true, true, true, true, true, true, false, false, false, false, false, false, false, false, false, false, false, false, false, false, false, false, false, false, false, false, false, false, false, false, false, false, false, false]
set_option maxRecDepth 1000000 in
set_option maxHeartbeats 16000000 in
theorem tk_in (A0 A1 A2 A3 A4 : Option Addr) (c0 c1 c2 c3 c4 : Nat) (nums tog : List Nat) (more : List (List Int)) (words rs : List Wd) (h : Hd) (f : Int) (W : World) (hG : ShaG W)
    (h0 : Rd W W.heap.size 1 A0 nums.length (u32s nums)) (hnum : ∀ x ∈ nums, x < 4294967296) (h1 : MoreAt W W.heap.size A1 more) (h2 : Rd W W.heap.size 1 A2 tog.length (byts tog)) (htog : okB tog) (h3 : Rd W W.heap.size 3 A3 words.length (words.flatMap Wd.cl)) (h4 : Rd W W.heap.size 3 A4 rs.length (rs.flatMap Wd.cl)) (ho : h.ok)
    (g0 : 1 ≤ nums.length) (g1 : nums.length ≤ 3) (g2 : more.length = nums.length) (g3 : tog.length ≤ 24) (g4 : words.length ≤ 3) (g5 : words.length ≤ rs.length) (g6 : 0 ≤ f) (g7 : f < 2097152) :
    Calls Tryd.prog 3 #[.slice A0 nums.length c0, .slice A1 more.length c1, .slice A2 tog.length c2, .slice A3 words.length c3, .slice A4 rs.length c4, .agg h.cl.toArray, .int .i64 f] W (Ret (.bool true) W) := by
  obtain ⟨cs, hcs⟩ : ∃ cs, Hid (h.cl.toArray = cs) := ⟨_, Lib.hid rfl⟩
  rw [hcs.out]
  obtain ⟨ss, hss⟩ : ∃ ss, Hid (nums.map secOf = ss) := ⟨_, Lib.hid rfl⟩
  have hsn : ss.length = nums.length := by rw [← hss.out]; simp
  have hsok : Hid (∀ s ∈ ss, secB s = true) := Lib.hid (fun s hs => by rw [← hss.out] at hs; obtain ⟨x, _, rfl⟩ := List.mem_map.1 hs; exact secOf_ok x)
  have hep := Lib.hid (epsOf_ok (f := f) (by omega) ⟨g6, g7⟩ hsok.out)
  have hkv : Hid (∀ k ∈ ss.map pubV, validB k = true) := Lib.hid (fun k hk => by obtain ⟨s, h1, rfl⟩ := List.mem_map.1 hk; exact pub_valid (hsok.out s h1))
  have hre := Lib.hid (rest_ends hkv.out)
  have BH := Blk.new W 34 cs _ rfl
  have hb := bAl (bRefl W) (.cells cs 34)
  have e1 : ((nums.length : Int) == 0) = false := by rw [beq_eq_false_iff_ne]; omega
  have e2 : decide (3 < (nums.length : Int)) = false := decide_eq_false (by omega)
  have e3 : ((more.length : Int) != nums.length) = false := by rw [bne_eq_false_iff_eq]; omega
  have e4 : decide (24 < (tog.length : Int)) = false := decide_eq_false (by omega)
  have e5 : decide (3 < (words.length : Int)) = false := decide_eq_false (by omega)
  have e6 : decide (rs.length < words.length) = false := decide_eq_false (by omega)
  have e7 : decide (f < 0) = false := decide_eq_false (by omega)
  have e8 : decide (2097152 ≤ f) = false := decide_eq_false (by omega)
  replace g2 := Lib.hid g2
  go_enter Tryd.func3, Tryd.ntmps3
  go_upto_region 2 with fail
  generalize W.alloc (.cells cs 34) = w1 at *
  have q := tk_secrets A0 c0 nums w1 ((h0.below hb).more hb.size) (by omega) hnum
  rw [hss.out] at q
  go_wp2_with fail
  (with_reducible refine q.mono ?_)
  rintro e w2 ⟨v18, rfl, b2, A18, c18, rfl, hR, _, _, _⟩
  replace BH := BH.below b2 BH.lt
  replace hb := bCall hb b2
  have hsz := BH.lt
  obtain ⟨B, hB⟩ : ∃ B, Hid (w2.heap.size = B) := ⟨_, Lib.hid rfl⟩
  rw [hB.out] at hR hsz
  have hBw : B ≤ w2.heap.size := Nat.le_of_eq hB.out.symm
  clear q b2 e1 e2 e3 e4 e5 e6 e7 e8 hB h0
  obtain ⟨n, hn⟩ : ∃ n, Hid (nums.length = n) := ⟨_, Lib.hid rfl⟩
  rw [hn.out] at hsn hR g0 g1 ⊢
  replace hsn := Lib.hid hsn
  go_wp2_with fail
  go_loopw [19, 20, 116] (fun v19 v20 i wr => ∃ k : Nat, k ≤ n ∧ i = .int .i64 k ∧ Below W.heap.size W wr ∧ B ≤ wr.heap.size ∧ Blk wr W.heap.size 34 cs ∧ Rd wr B 1 A18 n (ints ss) ∧ wr.ownsRow B 3 1 v19 k (ints ((ss.take k).map pubV)) ∧ wr.ownsRow B 43 3 v20 k ((epsOf f ss k).flatMap Ep.cl)) (fun _ _ i _ => n - (intOf i).toNat)
  case atStart => exact ⟨0, Nat.zero_le _, rfl, hb, hBw, BH, hR, World.ownsRow_nil _ _ _ _, World.ownsRow_nil _ _ _ _⟩
  case round =>
    clear hb BH hR hBw
    obtain ⟨k, hk, rfl, hb, hBw, BH, hR, hown, hown2⟩ := hrel
    by_cases hlt : k < n
    · obtain ⟨s, hs⟩ : ∃ s, Hid (ss[k]? = some s) := ⟨_, Lib.hid (List.getElem?_eq_getElem (by rw [hsn.out]; exact hlt))⟩
      -- <<
      obtain ⟨b, off, rfl, hbb, d0⟩ := Int_at hR hlt hs.out
      have hsk := hsok.out s (List.mem_of_getElem? hs.out)
      have hgd : ss.getD k 0 = s := by rw [List.getD_eq_getElem?_getD, hs.out]; rfl
      have q := fun w => el_public s w
      rw [pubE_ok hsk] at q
      replace q := Lib.hid q
      have hs1 : Hid (ints ((ss.take (k + 1)).map pubV) = ints ((ss.take k).map pubV) ++ [.int .i64 (pubV s)]) := Lib.hid (by
        obtain ⟨hk2, rfl⟩ := List.getElem?_eq_some_iff.1 hs.out
        rw [List.take_succ_eq_append_getElem hk2, List.map_append]
        unfold ints
        rw [List.map_append]; rfl)
      have hs2 : Hid ((epsOf f ss (k + 1)).flatMap Ep.cl = (epsOf f ss k).flatMap Ep.cl ++ [.int .i64 (2 * (k : Int)), .int .i64 f, .int .i64 (pubV s)]) := Lib.hid (by
        rw [epsOf_succ, List.flatMap_append]
        unfold epOf
        rw [hgd]; rfl)
      clear hgd hsk
      generalize pubV s = key at *
      have h63 : k + 1 ≤ maxLen := by unfold maxLen; omega
      have hby : (k + 1) * 8 ≤ 140737488355328 := by omega
      have hby2 : (k + 1) * 24 ≤ 140737488355328 := by omega
      have hone : ∀ u ∈ [Value.int .i64 key], u.oneCell' = true := by intro u hu; simp at hu; rcases hu with rfl; rfl
      have hone2 : ∀ u ∈ [Value.int .i64 (2 * (k : Int)), .int .i64 f, .int .i64 key], u.oneCell' = true := by intro u hu; simp at hu; rcases hu with rfl | rfl | rfl <;> rfl
      go_wp2_with fail
      (with_reducible refine (q.out _).mono ?_)
      rintro e w4 ⟨rfl, b4⟩
      clear q d0
      replace hb := bCall hb b4
      replace BH := BH.below b4 BH.lt
      replace hR := hR.below (b4.mono hBw)
      replace hown := ownsRow_keep hown b4
      replace hown2 := ownsRow_keep hown2 b4
      replace hBw := Nat.le_trans hBw b4.size
      go_upto_region 15 with (at_builtin; refine wpList_append1G w4 [.int .i64 key] (.tmp 128) (.tmp 130) 38 B 3 (.int .i64 0) 1 8 _ k _ rfl rfl Tryd.underlying38 int_info rfl (by omega) rfl hown rfl rfl hone h63 hby hBw ?_; intro v' w' hown4 hg4)
      have b5 := hg4.below hown hBw
      replace hb := hb.trans (b5.mono (by omega))
      replace BH := BH.below b5 (by omega)
      replace hR := hR.below b5
      replace hown2 := ownsRow_grew hown2 hown hg4 (by decide)
      replace hBw := Nat.le_trans hBw b5.size
      clear hown b4 b5
      go_wp2_with (at_builtin; refine wpList_append1G w' [.int .i64 (2 * (k : Int)), .int .i64 f, .int .i64 key] (.tmp 132) (.tmp 138) 40 B 43 (.agg #[.int .i64 0, .int .i64 0, .int .i64 0]) 3 24 _ k _ rfl rfl Tryd.underlying40 ep_info rfl (by omega) rfl hown2 rfl rfl hone2 h63 hby2 hBw ?_; intro v2 w5 hown5 hg5)
      have b5 := hg5.below hown2 hBw
      replace hown4 := ownsRow_grew hown4 hown2 hg5 (by decide)
      exact ⟨⟨k + 1, by omega, by go_num, hb.trans (b5.mono (by omega)), Nat.le_trans hBw b5.size, BH.below b5 (by omega), hR.below b5, by rw [hs1.out]; exact hown4, by rw [hs2.out]; exact hown5⟩, by simp [intOf]; omega⟩
      -- >>
    · obtain rfl : k = n := by omega
      have hle := Nat.le_of_eq hsn.out
      rw [List.take_of_length_le hle] at hown
      obtain ⟨A19, c19, rfl, hR19, _⟩ := Sl.of_own hown
      obtain ⟨A20, c20, rfl, hR20, _⟩ := Sl.of_own hown2
      clear hown hown2
      have hkl : Hid ((ss.map pubV).length = k) := Lib.hid (by rw [List.length_map]; exact hsn.out)
      have q := el_join A19 k c19 (ss.map pubV) wr hR19 (by omega)
      rw [hre.out.2.2.1] at q
      have q2 := fun w (b : Below wr.heap.size wr w) => ep_rest A19 k c19 (ss.map pubV) w ((hR19.below b).more b.size) (by omega)
      replace q2 := Lib.hid q2
      obtain ⟨J, hJ⟩ : ∃ J, Hid (joinV (ss.map pubV) = J) := ⟨_, Lib.hid rfl⟩
      rw [hJ.out] at q
      go_upto_region 17 with fail
      go_wp2_with fail
      (with_reducible refine q.mono ?_)
      rintro e w3 ⟨rfl, rfl⟩
      clear q
      go_wp2_with fail
      (with_reducible refine (q2.out _ (bRefl _)).mono ?_)
      rintro e w4 ⟨b4, hy, -⟩
      obtain ⟨g, rfl, hgg, BG⟩ := hy hkv.out
      clear q2 hy
      have hrl := hre.out
      rw [hkl.out] at hrl
      have hgc : Hid (∀ w, Blk w g 3 (ints (restL (ss.map pubV))).toArray → w.cell? ⟨g, 0, none⟩ = some (.int .i64 J) ∧ w.cell? ⟨g, k, none⟩ = some (.int .i64 1)) := Lib.hid (fun w B => ⟨(B.cell 0).trans (by rw [List.getElem?_toArray]; exact ints_at (by rw [hrl.1, hJ.out])), (B.cell k).trans (by rw [List.getElem?_toArray]; exact ints_at hrl.2.1)⟩)
      have hJv : Hid (validB J = true) := Lib.hid (by rw [← hJ.out]; exact hrl.2.2.2)
      replace hR20 := (hR20.below b4).more b4.size
      have hep2 := hep.out
      rw [hsn.out] at hep2
      have q3 := ep_check A20 c20 (epsOf f ss k) w4 (by rw [epsOf_length]; exact hR20) hep2
      rw [epsOf_length] at q3
      rw [hkl.out]
      have i0 : (k : Int) < (k : Int) + 1 := by omega
      clear hrl hre hep
      replace hep2 := Lib.hid hep2
      go_wp2_with fail
      (with_reducible refine q3.mono ?_)
      rintro e w5 ⟨rfl, b5⟩
      clear q3
      obtain ⟨y0, y1⟩ := hgc.out w5 (BG.below b5 BG.lt)
      have bb := bCall b4 b5
      replace hb := bCall hb bb
      replace BH := BH.below bb BH.lt
      replace hR := (hR.below (bb.mono hBw)).more (Nat.le_trans hBw bb.size)
      replace hR19 := (hR19.below bb).more bb.size
      replace hR20 := (hR20.below b5).more b5.size
      replace hBw := Nat.le_trans hBw bb.size
      replace h1 := (h1.below hb).more hb.size
      replace h2 := (h2.below hb).more hb.size
      replace h3 := (h3.below hb).more hb.size
      replace h4 := (h4.below hb).more hb.size
      replace hG := hG.below hb
      clear BG hgc b4 b5 bb hgg
      go_upto_region 22 with fail
      clear y0 y1
      go_wp2_with fail
      go_loopw [29, 185] (fun v29 i wr => ∃ j : Nat, j ≤ words.length ∧ i = .int .i64 j ∧ Below w5.heap.size w5 wr ∧ Hid (wordsOk words j) ∧ wr.ownsRow w5.heap.size 54 6 v29 j ((sealWs J words rs j).flatMap Ltr.cl)) (fun _ i _ => words.length - (intOf i).toNat)
      case atStart => exact ⟨0, Nat.zero_le _, rfl, bRefl _, Lib.hid (fun i hi => absurd hi (by omega)), World.ownsRow_nil _ _ _ _⟩
      case round =>
        obtain ⟨j, hj, rfl, hbw, hwk, hown⟩ := hrel
        by_cases hjt : j < words.length
        · obtain ⟨x, hx⟩ : ∃ x, Hid (words[j]? = some x) := ⟨_, Lib.hid (List.getElem?_eq_getElem hjt)⟩
          -- <<
          obtain ⟨r, hr⟩ : ∃ x, Hid (rs[j]? = some x) := ⟨_, Lib.hid (List.getElem?_eq_getElem (show j < rs.length by omega))⟩
          obtain ⟨b, off, rfl, hbb, d0, d1, d2⟩ := wd_at (h3.below hbw) hjt hx.out
          obtain ⟨b', off', rfl, hbb', f0, f1, f2⟩ := wd_at (h4.below hbw) (show j < rs.length by omega) hr.out
          have hws := hbw.size
          have hxg : words.getD j ⟨0, 0, 0⟩ = x := by rw [List.getD_eq_getElem?_getD, hx.out]; rfl
          have hrg : rs.getD j ⟨0, 0, 0⟩ = r := by rw [List.getD_eq_getElem?_getD, hr.out]; rfl
          obtain ⟨Z, hZ⟩ : ∃ Z, Hid (sealV J x.x x.y x.z r.x r.y r.z = Z) := ⟨_, Lib.hid rfl⟩
          have q := fun w => el_seal J x.x x.y x.z r.x r.y r.z w
          rw [hZ.out] at q
          unfold Ltr.agg at q
          have hwk1 : Hid (sealB x.x x.y x.z = true → wordsOk words (j + 1)) := Lib.hid (fun hs i hi => by
            rcases Nat.lt_or_ge i j with h | h
            · exact hwk.out i h
            · obtain rfl : i = j := by omega
              rw [hxg]; exact sealB_ok.1 hs)
          have hsn2 : Hid (sealB x.x x.y x.z = true → (sealWs J words rs (j + 1)).flatMap Ltr.cl = (sealWs J words rs j).flatMap Ltr.cl ++ Z.cl) := Lib.hid (fun hs => by
            rw [sealWs_succ, List.flatMap_append]
            unfold sealW
            rw [hxg, hrg, ← hZ.out, sealV_is hJv.out hs r]
            simp)
          have hec := Lib.hid (sealE_cases hJv.out x)
          generalize sealE J x.x x.y x.z = er at *
          replace q := Lib.hid q
          clear hxg hrg hZ
          have BX := Blk.new wr 50 #[.int .i64 x.x, .int .i64 x.y, .int .i64 x.z] _ rfl
          have bX := bAl (bRefl wr) (.cells #[.int .i64 x.x, .int .i64 x.y, .int .i64 x.z] 50)
          have j0 : (j : Int) < (rs.length : Int) := by omega
          have j1 : (0 : Int) ≤ (j : Int) := by omega
          go_upto_region 25 with fail
          clear d0 d1 d2
          replace hown := ownsRow_keep hown bX
          generalize wr.alloc (.cells #[.int .i64 x.x, .int .i64 x.y, .int .i64 x.z] 50) = w6 at *
          have hb6 := bCall hbw bX
          have hlt6 := BX.lt
          have f0' := (bX.cell (p := ⟨b', off' + j * 3, none⟩) (by show b' < wr.heap.size; omega)).trans f0
          have f1' := (bX.cell (p := ⟨b', off' + j * 3 + 1, none⟩) (by show b' < wr.heap.size; omega)).trans f1
          have f2' := (bX.cell (p := ⟨b', off' + j * 3 + 2, none⟩) (by show b' < wr.heap.size; omega)).trans f2
          have KS : Hid (∀ w', Below w6.heap.size w6 w' → (w'.cell? ⟨wr.heap.size, 0, none⟩ = some (.int .i64 x.x) ∧ w'.cell? ⟨wr.heap.size, 1, none⟩ = some (.int .i64 x.y) ∧ w'.cell? ⟨wr.heap.size, 2, none⟩ = some (.int .i64 x.z)) ∧ w'.cell? ⟨b', off' + j * 3, none⟩ = some (.int .i64 r.x) ∧ w'.cell? ⟨b', off' + j * 3 + 1, none⟩ = some (.int .i64 r.y) ∧ w'.cell? ⟨b', off' + j * 3 + 2, none⟩ = some (.int .i64 r.z)) := Lib.hid (fun w' h => ⟨⟨(BX.below h BX.lt).cell 0, (BX.below h BX.lt).cell 1, (BX.below h BX.lt).cell 2⟩,
            (h.cell (p := ⟨b', off' + j * 3, none⟩) (by show b' < w6.heap.size; omega)).trans f0', (h.cell (p := ⟨b', off' + j * 3 + 1, none⟩) (by show b' < w6.heap.size; omega)).trans f1', (h.cell (p := ⟨b', off' + j * 3 + 2, none⟩) (by show b' < w6.heap.size; omega)).trans f2'⟩)
          clear f0 f1 f2 f0' f1' f2' bX
          go_cut [32, 33] from 190 to 199 (fun s32 s33 wc => ∃ lb, s32 = .pointer (some ⟨lb, 0, none⟩) ∧ s33 = .int .i64 er ∧ Blk wc lb 54 Z.cells ∧ Below w6.heap.size w6 wc)
          case first =>
            go_region_held3 (fun w' => (w'.cell? ⟨wr.heap.size, 0, none⟩ = some (.int .i64 x.x) ∧ w'.cell? ⟨wr.heap.size, 1, none⟩ = some (.int .i64 x.y) ∧ w'.cell? ⟨wr.heap.size, 2, none⟩ = some (.int .i64 x.z)) ∧ w'.cell? ⟨b', off' + j * 3, none⟩ = some (.int .i64 r.x) ∧ w'.cell? ⟨b', off' + j * 3 + 1, none⟩ = some (.int .i64 r.y) ∧ w'.cell? ⟨b', off' + j * 3 + 2, none⟩ = some (.int .i64 r.z))
              (exact KS.out _ (by repeat (first | with_reducible exact B7 | with_reducible exact bRefl _ | with_reducible refine bAl ?_ _ | with_reducible refine bDr ?_ | with_reducible refine bSet ?_ (by exact Nat.le_refl _) _)))
              (first
              | (go_simp; go_at_call 10; (with_reducible refine (q.out _).mono ?_); rintro e w7 ⟨rfl, b7⟩; have B7 : Below w6.heap.size w6 w7 := bCall (by repeat (first | exact bRefl _ | refine bAl ?_ _ | refine bDr ?_)) b7; (try (have BZ : Blk w7 w6.heap.size 54 #[.int .i64 0, .int .i64 0, .int .i64 0, .int .i64 0, .int .i64 0, .int .i64 0] := Blk.below (by first | exact Blk.new _ _ _ _ rfl | exact Blk.dr (Blk.new _ _ _ _ rfl)) b7 (by simp); obtain ⟨k0, k1, k2, k3, k4, k5⟩ := BZ.six; obtain ⟨z0, z1, z2, z3, z4, z5⟩ := BZ.six_free))))
            all_goals
              go_wp2_with fail
              go_meet
              first
                | (with_reducible refine ⟨_, rfl, rfl, Blk.new _ _ _ _ rfl, bAl B7 _⟩; done)
                | exact ⟨_, rfl, rfl, BZ.set6 (.int .i64 Z.a0) (.int .i64 Z.b0) (.int .i64 Z.a1) (.int .i64 Z.b1) (.int .i64 Z.a2) (.int .i64 Z.b2), bSet6 B7 (Nat.le_refl _) (.int .i64 Z.a0) (.int .i64 Z.b0) (.int .i64 Z.a1) (.int .i64 Z.b1) (.int .i64 Z.a2) (.int .i64 Z.b2)⟩
          case rest =>
            obtain ⟨lb, rfl, rfl, BZ, b8⟩ := hcut
            clear KS q BX
            replace hown := ownsRow_keep hown b8
            replace hb6 := bCall hb6 b8
            clear b8
            rcases hec.out with ⟨hs, hee⟩ | ⟨hs, hee⟩
            · subst hee
              go_wp2_with fail
              go_ret
              exact ⟨rfl, bCall hb hb6⟩
            · subst hee
              obtain ⟨k0, k1, k2, k3, k4, k5⟩ := BZ.six
              have hs1 := Lib.hid (hsn2.out hs)
              have hs2 := hwk1.out hs
              replace hs2 := Lib.hid hs2
              have hz8 := hb6.size
              have h63 : j + 1 ≤ maxLen := by unfold maxLen; omega
              have hby : (j + 1) * 48 ≤ 140737488355328 := by omega
              have hone : ∀ u ∈ Z.cl, u.oneCell' = true := by intro u hu; unfold Ltr.cl at hu; simp at hu; rcases hu with rfl | rfl | rfl | rfl | rfl | rfl <;> rfl
              clear hs hsn2 hwk1 hec
              go_wp2_with (at_builtin; refine wpList_append1G wc Z.cl (.tmp 204) (.tmp 206) 48 w5.heap.size 54 (.agg zeroL.cells) 6 48 _ j _ rfl rfl Tryd.underlying48 sealed_info rfl (by omega) rfl hown rfl rfl hone h63 hby hz8 ?_; intro v' w' hown4 hg4)
              have b9 := hg4.below hown hz8
              exact ⟨⟨j + 1, by omega, by go_num, hb6.trans b9, hs2, by rw [hs1.out]; exact hown4⟩, by simp [intOf]; omega⟩
          -- >>
        · obtain rfl : j = words.length := by omega
          obtain ⟨A29, c29, rfl, hR29, _⟩ := Sl.of_own hown
          have hsay := Lib.hid (tk_says (rs := rs) hsok.out hJ.out hwk.out)
          have hC := Lib.hid (sealWs_chk (rs := rs) hJv.out g4 hwk.out)
          have hLl := Lib.hid (sealWs_length J words rs words.length)
          generalize sealWs J words rs words.length = L0 at *
          replace hb := bCall hb hbw
          replace BH := BH.below hbw BH.lt
          replace hR := (hR.below hbw).more hbw.size
          replace hR19 := (hR19.below hbw).more hbw.size
          replace hR20 := (hR20.below hbw).more hbw.size
          replace h1 := (h1.below hbw).more hbw.size
          replace h2 := (h2.below hbw).more hbw.size
          replace h3 := (h3.below hbw).more hbw.size
          replace hG := hG.below hbw
          clear hown hbw h4 hBw hlt hle hwk hJv hJ g5 hss hnum
          generalize wr = w8 at *
          go_wp2_with fail
          refine wp_loopM msk (fun U wr => ∃ (q : Nat) (A : Option Addr) (c : Nat), q ≤ k ∧ U 211 = .int .i64 q ∧ U 29 = .slice A words.length c ∧ Below w8.heap.size w8 wr ∧ Rd wr wr.heap.size 6 A words.length ((bareLast (ss.take q) L0).flatMap Ltr.cl)) (fun U => k - (intOf (U 211)).toNat) ⟨0, A29, c29, Nat.zero_le _, rfl, rfl, bRefl _, hR29⟩ ?_
          · clear hR29
            rintro U wr T ⟨q, A, c, hq, h211, h29, hbw, hRB⟩ hT
            dsimp only [msk, maskL, cond_true, cond_false, Nat.reduceAdd]
            rw [h211, h29]
            replace h211 := Lib.hid h211
            clear h29
            by_cases hqt : q < k
            · obtain ⟨sN, hs, hsk⟩ : ∃ sN : Nat, Hid (ss[q]? = some (sN : Int)) ∧ secB (sN : Int) = true := by
                obtain ⟨s, hs⟩ : ∃ s, ss[q]? = some s := ⟨_, List.getElem?_eq_getElem (by rw [hsn.out]; exact hqt)⟩
                have h := hsok.out s (List.mem_of_getElem? hs)
                obtain ⟨h1, _⟩ := secB_rng h
                obtain ⟨m, rfl⟩ := Int.eq_ofNat_of_zero_le (show 0 ≤ s by omega)
                exact ⟨m, Lib.hid hs, h⟩
              obtain ⟨m, hm⟩ : ∃ m, Hid (more[q]? = some m) := ⟨_, Lib.hid (List.getElem?_eq_getElem (by rw [g2.out, hn.out]; exact hqt))⟩
              obtain ⟨key, hkey⟩ : ∃ key, Hid (pubV (sN : Int) = key) := ⟨_, Lib.hid rfl⟩
              obtain ⟨b, off, rfl, hbb, d0⟩ := Int_at (hR.below hbw) hqt hs.out
              obtain ⟨b2, off2, rfl, hbb2, d1⟩ := Int_at (l := ss.map pubV) (x := key) (hR19.below hbw) hqt (by rw [List.getElem?_map, hs.out, ← hkey.out]; rfl)
              obtain ⟨vs, hv1, hv2⟩ := h1
              obtain ⟨Am, cm, hvm, hRm⟩ := hv2 q m hm.out
              obtain ⟨b3, off3, rfl, hbb3, hc3⟩ := hv1.2 (by rw [g2.out, hn.out]; omega)
              have d2 : wr.cell? ⟨b3, off3 + q, none⟩ = some (.slice Am m.length cm) := (hbw.cell (p := ⟨b3, off3 + q, none⟩) (by show b3 < _; omega)).trans (hc3 q _ hvm)
              have hws := hbw.size
              have i1 : (q : Int) < (more.length : Int) := by have := g2.out; have := hn.out; omega
              clear hc3
              obtain ⟨LQ, hLQ⟩ : ∃ LQ, Hid (bareLast (ss.take q) L0 = LQ) := ⟨_, Lib.hid rfl⟩
              rw [hLQ.out] at hRB
              have hLQl : Hid (LQ.length = words.length) := Lib.hid (by rw [← hLQ.out, bareLast_length, hLl.out])
              have hLQc : Hid (chkL LQ = 0) := Lib.hid (by rw [← hLQ.out]; exact bareLast_chk hC.out)
              by_cases hm4 : m.length ≤ 4
              · have hm6 : decide (4 < (m.length : Int)) = false := decide_eq_false (by omega)
                -- <<
                have p3 : 0 < sN := by have := (secB_rng hsk).1; omega
                have p4 : sN < 1073741789 := by have := (secB_rng hsk).2; omega
                have q1 := ep_deal sN p3 p4 Am m.length cm 6 m wr ((hRm.below hbw).more hbw.size) (by omega) (by omega)
                rw [show ((6 : Nat) : Int) = 6 from rfl] at q1
                replace q1 := Lib.hid q1
                have hsg : ss.getD q 0 = (sN : Int) := by rw [List.getD_eq_getElem?_getD, hs.out]; rfl
                have q2 := fun w (b : Below wr.heap.size wr w) => ep_key A20 c20 (epsOf f ss k) (2 * (q : Int)) f w (by rw [epsOf_length]; exact ((hR20.below hbw).more hbw.size).below b |>.more b.size) hep2.out ⟨by omega, by omega⟩ ⟨g6, g7⟩
                obtain ⟨kk, hkk⟩ := key_was (ss := ss) hqt g6
                have q3 := fun w (b : Below wr.heap.size wr w) => ep_key A20 c20 (epsOf f ss k) (2 * (q : Int)) (max 0 (f - 1)) w (by rw [epsOf_length]; exact ((hR20.below hbw).more hbw.size).below b |>.more b.size) hep2.out ⟨by omega, by omega⟩ ⟨by omega, by omega⟩
                rw [hkk] at q3
                rw [key_is hqt, hsg, hkey.out] at q2
                rw [epsOf_length] at q2 q3
                replace q2 := Lib.hid q2
                replace q3 := Lib.hid q3
                replace hsk := Lib.hid hsk
                clear hkk hsg
                go_upto_region 35 with fail
                go_wp2_with fail
                (with_reducible refine q1.out.mono ?_)
                rintro e wa ⟨v36, rfl, ba, A36, c36, rfl, hR36, _⟩
                clear q1
                go_wp2_with fail
                (with_reducible refine (q2.out _ ba).mono ?_)
                rintro e wb ⟨rfl, bb⟩
                clear q2
                replace hR36 := (hR36.below bb).more bb.size
                replace ba := bCall ba bb
                clear bb
                go_wp2_with fail
                (with_reducible refine (q3.out _ ba).mono ?_)
                rintro e w9 ⟨rfl, bb⟩
                clear q3
                replace hR36 := (hR36.below bb).more bb.size
                replace ba := bCall ba bb
                have hb9 := bCall hbw ba
                replace hRB := (hRB.below ba).more ba.size
                have d1' : w9.cell? ⟨b2, off2 + q, none⟩ = some (.int .i64 key) := (ba.cell (p := ⟨b2, off2 + q, none⟩) (by show b2 < _; omega)).trans d1
                have d2' : w9.cell? ⟨b3, off3 + q, none⟩ = some (.slice Am m.length cm) := (ba.cell (p := ⟨b3, off3 + q, none⟩) (by show b3 < _; omega)).trans d2
                have hz9 := hb9.size
                clear bb d0 d1 d2 ba hbw hws
                have hdl : Hid ((dealL sN m 6).length = 6) := Lib.hid (dealL_length _ _ _)
                rw [hdl.out] at hR36 ⊢
                go_upto_region 41 with fail
                have D1 := Lib.hid d1'
                have D2 := Lib.hid d2'
                clear d1' d2'
                -- <<
                obtain ⟨sh, hsh⟩ : ∃ sh : Nat → Nat × Nat, Hid (∀ x, sh x = (x, polN sN m x)) := ⟨_, Lib.hid (fun _ => rfl)⟩
                go_wp2_with fail
                go_loopw [44, 286] (fun v44 i wr => ∃ (t : Nat) (L : List Nat), t ≤ tog.length ∧ i = .int .i64 t ∧ Below w9.heap.size w9 wr ∧ Hid (L.Nodup ∧ ∀ x ∈ L, 1 ≤ x ∧ x ≤ 6) ∧ L.length ≤ t ∧ wr.ownsRow w9.heap.size 63 2 v44 L.length ((L.map sh).flatMap shC)) (fun _ i _ => tog.length - (intOf i).toNat)
                case atStart => exact ⟨0, [], Nat.zero_le _, rfl, bRefl _, Lib.hid ⟨List.nodup_nil, fun x hx => by cases hx⟩, Nat.le_refl _, World.ownsRow_nil _ _ _ _⟩
                case round =>
                  obtain ⟨t, L, ht, rfl, hbt, hL, hLt, hown⟩ := hrel
                  by_cases htt : t < tog.length
                  · obtain ⟨z, hz⟩ : ∃ z, Hid (tog[t]? = some z) := ⟨_, Lib.hid (List.getElem?_eq_getElem htt)⟩
                    -- <<
                    obtain ⟨b4, off4, rfl, hbb4, hc4⟩ := ((h2.below hb9).below (hbt.mono hz9)).2 (by omega)
                    have d0 : wr.cell? ⟨b4, off4 + t, none⟩ = some (.int .u8 (z : Nat)) := hc4 t _ (by unfold byts; rw [List.getElem?_map, hz.out]; rfl)
                    have hz2 : z < 256 := htog z (List.mem_of_getElem? hz.out)
                    obtain ⟨u, hu, hu6⟩ : ∃ u : Nat, (z : Int) % 6 = (u : Int) ∧ u < 6 := ⟨z % 6, by omega, by omega⟩
                    obtain ⟨x, hx⟩ : ∃ x, Hid (u + 1 = x) := ⟨_, Lib.hid rfl⟩
                    obtain ⟨pv, hpv⟩ : ∃ pv, Hid (polN sN m x = pv) := ⟨_, Lib.hid rfl⟩
                    have hdu : (dealL sN m 6)[u]? = some (x, pv) := by
                      unfold dealL
                      rw [List.getElem?_map, List.getElem?_range hu6, ← hpv.out, ← hx.out]; rfl
                    obtain ⟨b5, off5, rfl, hbb5, s0, s1⟩ := sh_at (hR36.below hbt) hu6 hdu
                    have hzt := hbt.size
                    have hx6 : 1 ≤ x ∧ x ≤ 6 := by have := hx.out; omega
                    replace hx6 := Lib.hid hx6
                    have BX := Blk.new wr 63 #[.int .i64 (x : Nat), .int .i64 (pv : Nat)] _ rfl
                    have bX := bAl (bRefl wr) (.cells #[.int .i64 (x : Nat), .int .i64 (pv : Nat)] 63)
                    obtain ⟨A44, c44, rfl, hR44, _⟩ := Sl.of_own hown
                    clear hc4 hdu
                    go_upto_region 46 with fail
                    clear s0 s1 d0
                    replace hown := ownsRow_keep hown bX
                    replace hR44 := (hR44.below bX).more bX.size
                    have hb10 := bCall hbt bX
                    have hsx : Hid (∀ y, (L.map sh) = L.map sh ∧ sh y = (y, polN sN m y)) := Lib.hid (fun y => ⟨rfl, hsh.out y⟩)
                    generalize wr.alloc (.cells #[.int .i64 (x : Nat), .int .i64 (pv : Nat)] 63) = w10 at *
                    generalize wr.heap.size = xb at *
                    clear hbt bX
                    go_wp2_with fail
                    go_loopw [48, 298] (fun bv i wr => ∃ t2 : Nat, t2 ≤ L.length ∧ i = .int .i64 t2 ∧ bv = .bool (decide (x ∈ L.take t2)) ∧ Below w10.heap.size w10 wr) (fun _ i _ => L.length - (intOf i).toNat)
                    case atStart => exact ⟨0, Nat.zero_le _, rfl, by simp, bRefl _⟩
                    case round =>
                      obtain ⟨t2, ht2, rfl, rfl, hb11⟩ := hrel
                      have BX2 := BX.below hb11 BX.lt
                      have g0 : wr.cell? ⟨xb, 0, none⟩ = some (.int .i64 (x : Nat)) := BX2.cell 0
                      have g1 : wr.cell? ⟨xb, 1, none⟩ = some (.int .i64 (pv : Nat)) := BX2.cell 1
                      have gx := BX2.lt
                      by_cases h22 : t2 < L.length
                      · obtain ⟨y, hy⟩ : ∃ y, Hid (L[t2]? = some y) := ⟨_, Lib.hid (List.getElem?_eq_getElem h22)⟩
                        obtain ⟨b6, off6, rfl, hbb6, r0, r1⟩ := sh_at (p := (y, polN sN m y)) (hR44.below hb11) h22 (by rw [List.getElem?_map, hy.out]; exact congrArg some (hsh.out y))
                        have htk := Lib.hid (take_mem (x := x) hy.out)
                        have hb6s := hb11.size
                        generalize polN sN m y = pw at *
                        cases hmem : decide (x ∈ L.take t2) with
                        | true =>
                          rw [hmem] at htk
                          clear hmem
                          go_wp2_with fail
                          exact ⟨⟨t2 + 1, by omega, by go_num, by rw [htk.out]; rfl, bAl hb11 _⟩, by simp [intOf]; omega⟩
                        | false =>
                          rw [hmem] at htk
                          clear hmem
                          by_cases hyx : y = x
                          · subst hyx
                            rw [decide_eq_true rfl] at htk
                            go_wp2_with fail
                            exact ⟨⟨t2 + 1, by omega, by go_num, by rw [htk.out]; rfl, bAl hb11 _⟩, by simp [intOf]; omega⟩
                          · have hne : ((y : Int) == x) = false := by rw [beq_eq_false_iff_ne]; omega
                            rw [decide_eq_false hyx] at htk
                            clear hyx
                            go_wp2_with fail
                            exact ⟨⟨t2 + 1, by omega, by go_num, by rw [htk.out]; rfl, bAl hb11 _⟩, by simp [intOf]; omega⟩
                      · obtain rfl : t2 = L.length := by omega
                        rw [List.take_length]
                        have hb12 := bCall hb10 hb11
                        replace hown := ownsRow_keep hown hb11
                        have hz12 := hb12.size
                        by_cases hxL : x ∈ L
                        · rw [decide_eq_true hxL]
                          clear hxL
                          go_wp2_with fail
                          exact ⟨⟨t + 1, L, by omega, by go_num, hb12, hL, by omega, hown⟩, by simp [intOf]; omega⟩
                        · rw [decide_eq_false hxL]
                          have hL2 : Hid ((L ++ [x]).Nodup ∧ ∀ y ∈ L ++ [x], 1 ≤ y ∧ y ≤ 6) := Lib.hid ⟨nodup_snoc hL.out.1 hxL, fun y hy => by
                            rcases List.mem_append.1 hy with h | h
                            · exact hL.out.2 y h
                            · obtain rfl : y = x := by simpa using h
                              exact hx6.out⟩
                          have hfl : Hid (((L ++ [x]).map sh).flatMap shC = (L.map sh).flatMap shC ++ [.int .i64 (x : Nat), .int .i64 (pv : Nat)]) := Lib.hid (by rw [List.map_append, List.flatMap_append, ← hpv.out]; show _ ++ ([sh x].flatMap shC) = _; rw [hsh.out]; rfl)
                          have h63 : L.length + 1 ≤ maxLen := by unfold maxLen; omega
                          have hby : (L.length + 1) * 16 ≤ 140737488355328 := by omega
                          have hone : ∀ u ∈ [Value.int .i64 (x : Nat), .int .i64 (pv : Nat)], u.oneCell' = true := by intro u hu; simp at hu; rcases hu with rfl | rfl <;> rfl
                          clear hxL
                          go_wp2_with (at_builtin; refine wpList_append1G wr [.int .i64 (x : Nat), .int .i64 (pv : Nat)] (.tmp 313) (.tmp 315) 57 w9.heap.size 63 (.agg #[.int .i64 0, .int .i64 0]) 2 16 _ L.length _ rfl rfl Tryd.underlying57 share_info rfl (by omega) rfl hown rfl rfl hone h63 hby hz12 ?_; intro v' w' hown4 hg4)
                          have b9 := hg4.below hown hz12
                          exact ⟨⟨t + 1, L ++ [x], by omega, by go_num, hb12.trans b9, hL2, by rw [List.length_append]; show L.length + 1 ≤ t + 1; omega, by rw [List.length_append, hfl.out]; exact hown4⟩, by simp [intOf]; omega⟩
                    -- >>
                  · obtain rfl : t = tog.length := by omega
                    generalize wr = w12 at *
                    have hz12 := hbt.size
                    clear hz12
                    go_wp2_with fail
                    go_loopw [44, 320] (fun v44 i wr => ∃ (t : Nat) (L : List Nat), t ≤ 6 ∧ i = .int .i64 t ∧ Below w9.heap.size w9 wr ∧ Hid ((L.Nodup ∧ ∀ x ∈ L, 1 ≤ x ∧ x ≤ 6) ∧ (m.length < L.length ∨ ∀ y, 1 ≤ y → y ≤ t → y ∈ L)) ∧ L.length ≤ 24 + t ∧ wr.ownsRow w9.heap.size 63 2 v44 L.length ((L.map sh).flatMap shC)) (fun _ i _ => 6 - (intOf i).toNat)
                    case atStart => exact ⟨0, L, by omega, rfl, hbt, Lib.hid ⟨hL.out, .inr (fun y h1 h2 => absurd h2 (by omega))⟩, by omega, hown⟩
                    case round =>
                      clear hbt hown hL hLt htt ht
                      obtain ⟨t, L, ht, rfl, hbt, hL, hLt, hown⟩ := hrel
                      by_cases htt : t < 6
                      · obtain ⟨x, hx⟩ : ∃ x, Hid (t + 1 = x) := ⟨_, Lib.hid rfl⟩
                        -- <<
                        obtain ⟨pv, hpv⟩ : ∃ pv, Hid (polN sN m x = pv) := ⟨_, Lib.hid rfl⟩
                        have hdu : (dealL sN m 6)[t]? = some (x, pv) := by
                          unfold dealL
                          rw [List.getElem?_map, List.getElem?_range htt, ← hpv.out, ← hx.out]; rfl
                        obtain ⟨b5, off5, rfl, hbb5, s0, s1⟩ := sh_at (hR36.below hbt) htt hdu
                        have hzt := hbt.size
                        have hx6 : 1 ≤ x ∧ x ≤ 6 := by have := hx.out; omega
                        replace hx6 := Lib.hid hx6
                        have BX := Blk.new wr 63 #[.int .i64 (x : Nat), .int .i64 (pv : Nat)] _ rfl
                        have bX := bAl (bRefl wr) (.cells #[.int .i64 (x : Nat), .int .i64 (pv : Nat)] 63)
                        obtain ⟨A44, c44, rfl, hR44, _⟩ := Sl.of_own hown
                        clear hdu
                        go_upto_region 57 with fail
                        clear s0 s1
                        replace hown := ownsRow_keep hown bX
                        replace hR44 := (hR44.below bX).more bX.size
                        have hb10 := bCall hbt bX
                        generalize wr.alloc (.cells #[.int .i64 (x : Nat), .int .i64 (pv : Nat)] 63) = w10 at *
                        generalize wr.heap.size = xb at *
                        clear hbt bX
                        have d2 : w10.cell? ⟨b3, off3 + q, none⟩ = some (.slice Am m.length cm) := (hb10.cell (p := ⟨b3, off3 + q, none⟩) (by show b3 < _; omega)).trans D2.out
                        obtain ⟨B0, hB0⟩ : ∃ B0, decide (m.length < L.length) = B0 := ⟨_, rfl⟩
                        have hB1 : decide ((m.length : Int) < (L.length : Int)) = B0 := by rw [← hB0]; exact decide_eq_decide.2 (by omega)
                        have HB := Lib.hid hB0
                        go_upto_region 58 with fail
                        clear d2 hB0 hB1
                        go_wp2_with fail
                        go_loopw [53, 334] (fun bv i wr => ∃ t2 : Nat, t2 ≤ L.length ∧ i = .int .i64 t2 ∧ bv = .bool (B0 || decide (x ∈ L.take t2)) ∧ Below w10.heap.size w10 wr) (fun _ i _ => L.length - (intOf i).toNat)
                        case atStart => exact ⟨0, Nat.zero_le _, rfl, by simp, bRefl _⟩
                        case round =>
                          obtain ⟨t2, ht2, rfl, rfl, hb11⟩ := hrel
                          have BX2 := BX.below hb11 BX.lt
                          have g0 : wr.cell? ⟨xb, 0, none⟩ = some (.int .i64 (x : Nat)) := BX2.cell 0
                          have g1 : wr.cell? ⟨xb, 1, none⟩ = some (.int .i64 (pv : Nat)) := BX2.cell 1
                          have gx := BX2.lt
                          by_cases h22 : t2 < L.length
                          · obtain ⟨y, hy⟩ : ∃ y, Hid (L[t2]? = some y) := ⟨_, Lib.hid (List.getElem?_eq_getElem h22)⟩
                            obtain ⟨b6, off6, rfl, hbb6, r0, r1⟩ := sh_at (p := (y, polN sN m y)) (hR44.below hb11) h22 (by rw [List.getElem?_map, hy.out]; exact congrArg some (hsh.out y))
                            have htk := take_mem (x := x) hy.out
                            have htk2 : (B0 || decide (x ∈ L.take (t2 + 1))) = ((B0 || decide (x ∈ L.take t2)) || decide (y = x)) := by rw [htk, Bool.or_assoc]
                            have htk := Lib.hid htk2
                            clear htk2
                            have hb6s := hb11.size
                            generalize polN sN m y = pw at *
                            generalize (B0 || decide (x ∈ L.take t2)) = Bc at *
                            cases Bc with
                            | true =>
                              go_wp2_with fail
                              exact ⟨⟨t2 + 1, by omega, by go_num, by rw [htk.out]; rfl, bAl hb11 _⟩, by simp [intOf]; omega⟩
                            | false =>
                              by_cases hyx : y = x
                              · subst hyx
                                rw [decide_eq_true rfl] at htk
                                go_wp2_with fail
                                exact ⟨⟨t2 + 1, by omega, by go_num, by rw [htk.out]; rfl, bAl hb11 _⟩, by simp [intOf]; omega⟩
                              · have hne : ((y : Int) == x) = false := by rw [beq_eq_false_iff_ne]; omega
                                rw [decide_eq_false hyx] at htk
                                clear hyx
                                go_wp2_with fail
                                exact ⟨⟨t2 + 1, by omega, by go_num, by rw [htk.out]; rfl, bAl hb11 _⟩, by simp [intOf]; omega⟩
                          · obtain rfl : t2 = L.length := by omega
                            rw [List.take_length]
                            have hb12 := bCall hb10 hb11
                            replace hown := ownsRow_keep hown hb11
                            have hz12 := hb12.size
                            cases hfin : (B0 || decide (x ∈ L)) with
                            | true =>
                              have hL2 : Hid ((L.Nodup ∧ ∀ x ∈ L, 1 ≤ x ∧ x ≤ 6) ∧ (m.length < L.length ∨ ∀ y, 1 ≤ y → y ≤ t + 1 → y ∈ L)) := Lib.hid ⟨hL.out.1, by
                                rcases Bool.or_eq_true_iff.1 hfin with h | h
                                · rw [h] at HB; exact .inl (of_decide_eq_true HB.out)
                                · rcases hL.out.2 with h2 | h2
                                  · exact .inl h2
                                  · refine .inr (fun y h3 h4 => ?_)
                                    rcases Nat.lt_or_ge t y with h5 | h5
                                    · have : y = x := by have := hx.out; omega
                                      rw [this]; exact of_decide_eq_true h
                                    · exact h2 y h3 h5⟩
                              clear hfin
                              go_wp2_with fail
                              exact ⟨⟨t + 1, L, by omega, by go_num, hb12, hL2, by omega, hown⟩, by simp [intOf]; omega⟩
                            | false =>
                              obtain ⟨hf1, hf2⟩ := Bool.or_eq_false_iff.1 hfin
                              have hxL : x ∉ L := of_decide_eq_false hf2
                              have hL2 : Hid (((L ++ [x]).Nodup ∧ ∀ y ∈ L ++ [x], 1 ≤ y ∧ y ≤ 6) ∧ (m.length < (L ++ [x]).length ∨ ∀ y, 1 ≤ y → y ≤ t + 1 → y ∈ L ++ [x])) := Lib.hid ⟨⟨nodup_snoc hL.out.1.1 hxL, fun y hy => by
                                rcases List.mem_append.1 hy with h | h
                                · exact hL.out.1.2 y h
                                · obtain rfl : y = x := by simpa using h
                                  exact hx6.out⟩, by
                                rcases hL.out.2 with h2 | h2
                                · exact .inl (by rw [List.length_append]; omega)
                                · refine .inr (fun y h3 h4 => ?_)
                                  rcases Nat.lt_or_ge t y with h5 | h5
                                  · have : y = x := by have := hx.out; omega
                                    rw [this]; simp
                                  · exact List.mem_append_left _ (h2 y h3 h5)⟩
                              have hfl : Hid (((L ++ [x]).map sh).flatMap shC = (L.map sh).flatMap shC ++ [.int .i64 (x : Nat), .int .i64 (pv : Nat)]) := Lib.hid (by rw [List.map_append, List.flatMap_append, ← hpv.out]; show _ ++ ([sh x].flatMap shC) = _; rw [hsh.out]; rfl)
                              have h63 : L.length + 1 ≤ maxLen := by unfold maxLen; omega
                              have hby : (L.length + 1) * 16 ≤ 140737488355328 := by omega
                              have hone : ∀ u ∈ [Value.int .i64 (x : Nat), .int .i64 (pv : Nat)], u.oneCell' = true := by intro u hu; simp at hu; rcases hu with rfl | rfl <;> rfl
                              clear hxL hfin hf1 hf2
                              go_wp2_with (at_builtin; refine wpList_append1G wr [.int .i64 (x : Nat), .int .i64 (pv : Nat)] (.tmp 349) (.tmp 351) 57 w9.heap.size 63 (.agg #[.int .i64 0, .int .i64 0]) 2 16 _ L.length _ rfl rfl Tryd.underlying57 share_info rfl (by omega) rfl hown rfl rfl hone h63 hby hz12 ?_; intro v' w' hown4 hg4)
                              have b9 := hg4.below hown hz12
                              exact ⟨⟨t + 1, L ++ [x], by omega, by go_num, hb12.trans b9, hL2, by rw [List.length_append]; show L.length + 1 ≤ 24 + (t + 1); omega, by rw [List.length_append, hfl.out]; exact hown4⟩, by simp [intOf]; omega⟩
                        -- >>
                      · obtain rfl : t = 6 := by omega
                        generalize wr = w12 at *
                        have hz12 := hbt.size
                        obtain ⟨A44, c44, rfl, hR44, _⟩ := Sl.of_own hown
                        have hmL : m.length < L.length := by
                          rcases hL.out.2 with h | h
                          · exact h
                          · have := pigeon 6 L h; omega
                        obtain ⟨hrec, hr1, hr2⟩ := rec_back hsh.out p4 hmL hL.out.1.1 hL.out.1.2
                        have q5 := ep_recover A44 c44 (L.map sh) w12 (by rw [List.length_map]; exact hR44) (by rw [List.length_map]; omega) (by rw [List.length_map]; omega) hr1 hr2
                        rw [hrec, List.length_map] at q5
                        clear hrec hr1 hr2 hmL hR44 hown hL hsh
                        go_wp2_with fail
                        (with_reducible refine q5.mono ?_)
                        rintro e w13 ⟨rfl, b13⟩
                        clear q5
                        -- <<
                        have hw13 := bCall hbt b13
                        have hb13 := bCall hb9 hw13
                        have hRQ := (hRB.below hw13).more hw13.size
                        have d1 : w13.cell? ⟨b2, off2 + q, none⟩ = some (.int .i64 key) := (hw13.cell (p := ⟨b2, off2 + q, none⟩) (by show b2 < w9.heap.size; omega)).trans D1.out
                        have hG13 := hG.below hb13
                        have q6 := equal_bare (sN : Int) A words.length c LQ w13 hRQ (by omega) hG13
                        go_upto_region 69 with fail
                        clear hbt hz12 b13 hRB
                        go_wp2_with fail
                        (with_reducible refine q6.mono ?_)
                        rintro e w14 ⟨b14, -, hy⟩
                        obtain ⟨ga, gb, rfl, hga, hgb, BA, BB⟩ := hy (by unfold bareE; rw [if_pos hsk.out]; exact hLQc.out)
                        rw [hLQl.out]
                        clear q6 hy
                        obtain ⟨XQ, hXQ⟩ : ∃ X, Hid (bareX (sN : Int) LQ = X) := ⟨_, Lib.hid rfl⟩
                        obtain ⟨PQ, hPQ⟩ : ∃ X, Hid (bareP (sN : Int) LQ = X) := ⟨_, Lib.hid rfl⟩
                        have hXl : Hid (XQ.length = words.length) := Lib.hid (by rw [← hXQ.out, ← hLQl.out]; unfold bareX; simp)
                        have hPl : Hid (PQ.length = words.length) := Lib.hid (by rw [← hPQ.out, ← hLQl.out]; unfold bareP; simp)
                        have hXc : Hid (chkL XQ = 0) := Lib.hid (by rw [← hXQ.out]; exact chkL_bareX hLQc.out)
                        have hck : Hid (checkBareB key LQ XQ PQ = true) := Lib.hid (by rw [← hkey.out, ← hXQ.out, ← hPQ.out]; exact bare_ok hsk.out hLQc.out)
                        rw [hXQ.out] at BA
                        rw [hPQ.out] at BB
                        have hRX := rd_blk (n := words.length) (sz := 6) BA (by rw [ltrs_len, hXl.out])
                        have hRP := rd_blk (n := words.length) (sz := 6) BB (by rw [ltrs_len, hPl.out])
                        have q7 := equal_checkBare key A (some ⟨ga, 0, none⟩) (some ⟨gb, 0, none⟩) words.length words.length words.length c words.length words.length LQ XQ PQ w14 ((hRQ.below b14).more b14.size) hRX hRP (by omega) (by omega) (by omega) (hG13.below b14)
                        rw [hck.out] at q7
                        replace d1 : w14.cell? ⟨b2, off2 + q, none⟩ = some (.int .i64 key) := (b14.cell (p := ⟨b2, off2 + q, none⟩) (by show b2 < w13.heap.size; have := hb13.size; omega)).trans d1
                        have hb14 := bCall hb13 b14
                        clear BB hRP hRX hRQ hck hPQ hPl hgb
                        go_wp2_with fail
                        (with_reducible refine q7.mono ?_)
                        rintro e w15 ⟨rfl, hx15⟩
                        clear q7 d1
                        -- <<
                        have hcs42 : Hid (cs.size = 42) := Lib.hid (by rw [← hcs.out]; simpa using Hd.cl_length ho)
                        have hcs1 : Hid (∀ v ∈ cs.toList, v.oneCell' = true) := Lib.hid (by rw [← hcs.out]; simpa using Hd.one h)
                        have hga2 : ga < w14.heap.size := BA.lt
                        go_upto_region 72 with fail
                        apply wp_region_lit
                        refine wpList_loadG (by rfl) (by rfl) (by rfl) (load_blk (BH.below (bCall hb14 hx15) BH.lt) Tryd.underlying34 rfl (by rw [hcs42.out]; exact hand_info)) ?_
                        simp only [Act.put, List.setIfInBounds_toArray, List.set_cons_zero, List.set_cons_succ]
                        iterate 3 go_step
                        refine wpList_storeG (by rfl) (by rfl) (by rfl) (by rfl) (store_newW (by rw [hcs42.out]; exact hand_info) (by rw [hcs42.out]; rfl) hcs1.out) ?_
                        simp only [Act.put]
                        have BN := Blk.new w15 34 cs _ rfl
                        have hgn := hx15.size
                        have hx16 := bAl hx15 (.cells cs 34)
                        generalize w15.alloc (.cells cs 34) = w16 at *
                        generalize w15.heap.size = gn at *
                        have q8 := ho_root (some ⟨ga, 0, none⟩) words.length XQ (fun x hx => good_ok (List.all_eq_true.1 (chkL_ok.1 hXc.out).2 x hx)) w16 ((rd_blk (n := XQ.length) (sz := 6) BA (by rw [ltrs_len])).below hx16 |>.more hx16.size) (by rw [hXl.out]; omega) (hG.below (bCall hb14 hx16))
                        rw [hXl.out] at q8
                        obtain ⟨R, hR0⟩ : ∃ R, Hid (rootL XQ = R) := ⟨_, Lib.hid rfl⟩
                        have hRd : Hid (dgOk R) := Lib.hid (by rw [← hR0.out]; exact rootN_ok _)
                        rw [hR0.out] at q8
                        unfold dig at q8
                        go_wp2_with fail
                        (with_reducible refine q8.mono ?_)
                        rintro e w17 ⟨rfl, b17⟩
                        clear q8
                        replace BN := BN.below b17 BN.lt
                        replace hx16 := bCall hx16 b17
                        obtain ⟨H2, hH2⟩ : ∃ H2, Hid (rootH h (2 * (q : Int)) words.length R = H2) := ⟨_, Lib.hid rfl⟩
                        have ho2 : Hid H2.ok := Lib.hid (by rw [← hH2.out]; exact rootH_ok ho (by unfold inI; omega) (by unfold inI; omega) hRd.out)
                        have hRl : Hid ((byts R).length = 32) := Lib.hid (by rw [byts_length]; exact hRd.out.1)
                        have hh := HdAt.of BN hcs.out.symm ho
                        have k4 := hh.c4
                        have k6 := hh.c6
                        have z4 := BN.frozen 4
                        have z6 := BN.frozen 6
                        clear hh b17
                        dsimp only
                        (refine ‹∀ (a : Act) (w : World), wpList _ _ _ _ a w → _› _ _ ?_)
                        iterate 15 go_step
                        have BN2 := (BN.set_ 4 (.int .i64 (2 * (q : Int)))).set_ 6 (.int .i64 (words.length : Nat))
                        have hx17 := bSet (bSet hx16 (p := ⟨gn, 4, none⟩) hgn (.int .i64 (2 * (q : Int)))) (p := ⟨gn, 6, none⟩) hgn (.int .i64 (words.length : Nat))
                        clear k4 k6 z4 z6 BN hx16
                        generalize (w17.setCell ⟨gn, 4, none⟩ (.int .i64 (2 * (q : Int)))).setCell ⟨gn, 6, none⟩ (.int .i64 (words.length : Nat)) = w18 at *
                        rw [← hcs.out] at BN2
                        have st := store_at (P := Tryd.prog) (ty := 30) (o := 7) (X := (byts R).toArray) BN2 (by rw [List.size_toArray, hRl.out]; exact dig_info) (by rw [List.size_toArray, hRl.out]; have := Hd.cl_length ho; simp [this]) (by simpa using byts_oneCell (l := R))
                        rw [rootH_cl ho hRd.out.1, hH2.out] at st
                        refine wpList_storeG (by rfl) (by rfl) (by rfl) (by rfl) st ?_
                        simp only [Act.put]
                        have BN3 := Blk.row BN2 H2.cl.toArray
                        have hx18 := below_setRow hx17 hgn H2.cl.toArray
                        clear BN2 hx17 st
                        generalize w18.setRow gn H2.cl.toArray = w19 at *
                        -- <<
                        have hnext : Hid (bareLast (ss.take (q + 1)) L0 = XQ) := Lib.hid (by
                          obtain ⟨hl, e⟩ := List.getElem?_eq_some_iff.1 hs.out
                          rw [List.take_succ_eq_append_getElem hl, e, bareLast_snoc, hLQ.out, hXQ.out])
                        have hRf : Hid (∀ w, Below w14.heap.size w14 w → Rd w w.heap.size 6 (some ⟨ga, 0, none⟩) words.length ((bareLast (ss.take (q + 1)) L0).flatMap Ltr.cl)) := Lib.hid (fun w b => by
                          rw [hnext.out]
                          exact ((rd_blk (n := words.length) (sz := 6) BA (by rw [ltrs_len, hXl.out])).below b).more b.size)
                        have q9 := fun w (b : Below w14.heap.size w14 w) => ho_make (sN : Int) hsk.out H2 ho2.out w (hG.below (bCall hb14 b))
                        have hMo : Hid (madeH (sN : Int) H2).ok := Lib.hid (by unfold madeH; split; exact signH_ok ho2.out; exact zeroH_ok)
                        obtain ⟨M, hM⟩ : ∃ M, Hid (madeH (sN : Int) H2 = M) := ⟨_, Lib.hid rfl⟩
                        obtain ⟨er, her⟩ : ∃ er, Hid (madeE H2 = er) := ⟨_, Lib.hid rfl⟩
                        rw [hM.out] at hMo q9
                        rw [her.out] at q9
                        obtain ⟨ms, hms⟩ : ∃ x, Hid (M.cl.toArray = x) := ⟨_, Lib.hid rfl⟩
                        obtain ⟨cs2, hcs2⟩ : ∃ x, Hid (H2.cl.toArray = x) := ⟨_, Lib.hid rfl⟩
                        rw [hms.out, hcs2.out] at q9
                        rw [hcs2.out] at BN3
                        have hc42 : Hid (cs2.size = 42) := Lib.hid (by rw [← hcs2.out]; simpa using Hd.cl_length ho2.out)
                        have hm42 : Hid (ms.size = 42) := Lib.hid (by rw [← hms.out]; simpa using Hd.cl_length hMo.out)
                        have hm1 : Hid (∀ v ∈ ms.toList, v.oneCell' = true) := Lib.hid (by rw [← hms.out]; simpa using Hd.one M)
                        replace q9 := Lib.hid q9
                        go_upto_region 74 with fail
                        apply wp_region_lit
                        iterate 3 go_step
                        refine wpList_loadG (by rfl) (by rfl) (by rfl) (load_blk BN3 Tryd.underlying34 rfl (by rw [hc42.out]; exact hand_info)) ?_
                        simp only [Act.put, List.setIfInBounds_toArray, List.set_cons_zero, List.set_cons_succ]
                        go_wp2_with fail
                        (with_reducible refine (q9.out _ hx18).mono ?_)
                        rintro e w20 ⟨rfl, b20⟩
                        have hx20 := bCall hx18 b20
                        replace BN3 := BN3.below b20 BN3.lt
                        clear b20 hx18
                        dsimp only
                        (refine ‹∀ (a : Act) (w : World), wpList _ _ _ _ a w → _› _ _ ?_)
                        iterate 12 go_step
                        refine wpList_storeG (by rfl) (by rfl) (by rfl) (by rfl) (store_newW (by rw [hm42.out]; exact hand_info) (by rw [hm42.out]; rfl) hm1.out) ?_
                        simp only [Act.put]
                        have BM := Blk.new w20 34 ms _ rfl
                        have hx21 := bAl hx20 (.cells ms 34)
                        replace BN3 := BN3.alloc (.cells ms 34)
                        clear hx20
                        generalize w20.alloc (.cells ms 34) = w21 at *
                        generalize w20.heap.size = gm at *
                        go_upto_region 75 with fail
                        cases hf : H2.formed with
                        | false =>
                          obtain rfl : er = 480 := by rw [← her.out]; exact if_neg (by simp [hf])
                          clear hf
                          go_wp2_with fail
                          exact hT.out _ _ rfl rfl ⟨q + 1, some ⟨ga, 0, none⟩, words.length, by omega, by show Value.int .i64 _ = Value.int .i64 _; go_num, rfl, bCall hb14 hx21, hRf.out _ hx21⟩ (by show k - (intOf (Value.int .i64 _)).toNat < k - (intOf (U 211)).toNat; rw [h211.out]; simp [intOf]; omega)
                        | true =>
                          -- <<
                          obtain rfl : er = 0 := by rw [← her.out]; exact if_pos hf
                          have hMs : M = signH (sN : Int) H2 := by rw [← hM.out]; exact if_pos hf
                          have hsig : Hid (M.signed key = true) := Lib.hid (by rw [hMs, ← hkey.out]; exact signed_ok hsk.out hf)
                          have hMr : Hid (M.root = R) := Lib.hid (by rw [hMs, ← hH2.out]; rfl)
                          clear hf hMs
                          go_upto_region 76 with fail
                          apply wp_region_lit
                          iterate 3 go_step
                          refine wpList_loadG (by rfl) (by rfl) (by rfl) (load_blk BN3 Tryd.underlying34 rfl (by rw [hc42.out]; exact hand_info)) ?_
                          simp only [Act.put, List.setIfInBounds_toArray, List.set_cons_zero, List.set_cons_succ]
                          go_wp2_with fail
                          (with_reducible refine (q9.out _ hx21).mono ?_)
                          rintro e w22 ⟨rfl, b22⟩
                          have hx22 := bCall hx21 b22
                          replace BM := BM.below b22 BM.lt
                          clear b22 hx21 BN3 q9
                          dsimp only
                          (refine ‹∀ (a : Act) (w : World), wpList _ _ _ _ a w → _› _ _ ?_)
                          iterate 12 go_step
                          refine wpList_storeG (by rfl) (by rfl) (by rfl) (by rfl) (store_newW (by rw [hm42.out]; exact hand_info) (by rw [hm42.out]; rfl) hm1.out) ?_
                          simp only [Act.put]
                          have BM2 := Blk.new w22 34 ms _ rfl
                          have hx23 := bAl hx22 (.cells ms 34)
                          replace BM := BM.alloc (.cells ms 34)
                          clear hx22
                          generalize w22.alloc (.cells ms 34) = w23 at *
                          generalize w22.heap.size = gm2 at *
                          have ne1 : ∀ w, (binOp .neq 34 (.agg ms) (.agg ms)).run Tryd.prog w = .ok (.bool false) w := fun w => by rw [← hms.out]; exact ne_hand hMo.out w
                          have ne2 : ∀ w, (binOp .neq 30 (.agg (byts R).toArray) (.agg (byts R).toArray)).run Tryd.prog w = .ok (.bool false) w := fun w => ne_dig hRd.out w
                          have hb23 := bCall hb14 hx23
                          have hik : inI key := by rw [← hkey.out]; have := validB_rng (pub_valid hsk.out); unfold inI; omega
                          have KS : Hid (∀ w', Below w23.heap.size w23 w' → (Instr.loadAt 34 (.pointer (some ⟨gm, 0, none⟩))).run Tryd.prog w' = .ok (.agg ms) w' ∧ (Instr.loadAt 34 (.pointer (some ⟨gm2, 0, none⟩))).run Tryd.prog w' = .ok (.agg ms) w' ∧ (Instr.loadAt 30 (.pointer (some ⟨gm, 7, none⟩))).run Tryd.prog w' = .ok (.agg (byts R).toArray) w' ∧ w'.cell? ⟨b2, off2 + q, none⟩ = some (.int .i64 key)) := Lib.hid (fun w' hw => ⟨load_blk (BM.below hw BM.lt) Tryd.underlying34 rfl (by rw [hm42.out]; exact hand_info), load_blk (BM2.below hw BM2.lt) Tryd.underlying34 rfl (by rw [hm42.out]; exact hand_info), by
                            have := BM.below hw BM.lt
                            rw [← hms.out] at this
                            have := load_root this hMo.out
                            rwa [hMr.out] at this, ((bCall hw13 (bCall b14 (bCall hx23 hw))).cell (p := ⟨b2, off2 + q, none⟩) (by show b2 < w9.heap.size; omega)).trans D1.out⟩)
                          have q11 : Hid (∀ w, Below w14.heap.size w14 w → Calls Tryd.prog 17 #[.int .i64 key, .agg ms] w (Ret (.bool true) w)) := Lib.hid (fun w b => by
                            have := ho_check key M hMo.out hik w (hG.below (bCall hb14 b))
                            rw [hsig.out, hms.out] at this
                            exact this)
                          have q12 : Hid (∀ w, Below w14.heap.size w14 w → Calls Tryd.prog 15 #[.slice (some ⟨ga, 0, none⟩) words.length words.length] w (Ret (.agg (byts R).toArray) w)) := Lib.hid (fun w b => by
                            have := ho_root (some ⟨ga, 0, none⟩) words.length XQ (fun x hx => good_ok (List.all_eq_true.1 (chkL_ok.1 hXc.out).2 x hx)) w ((rd_blk (n := XQ.length) (sz := 6) BA (by rw [ltrs_len])).below b |>.more b.size) (by rw [hXl.out]; omega) (hG.below (bCall hb14 b))
                            rw [hXl.out, hR0.out] at this
                            exact this)
                          clear hb23 hik BM BM2
                          go_upto_region 77 with fail
                          refine wp_region_schB (f := 22) KS [(0, 1), (1, 1), (2, 1), (3, 2), (4, 2), (5, 1), (6, 1), (7, 1), (8, 1), (9, 1), (10, 1), (11, 2), (12, 2), (13, 0), (14, 1), (15, 1), (16, 1), (17, 1), (18, 2), (19, 1), (20, 0), (21, 1), (22, 3)] ?_
                          simp only [pickS, List.getElem?_cons_zero, List.getElem?_cons_succ]
                          refine wpSched_t ?_
                          refine wpSched_t ?_
                          refine wpSched_t ?_
                          refine wpSched_r (v := ?v1) (hv := ?h1) ?_; case h1 => (intro w hSw; (first | refine (exec_load rfl rfl hSw).trans ?_ | refine (exec_load rfl rfl hSw.1).trans ?_ | refine (exec_load rfl rfl hSw.2.1).trans ?_ | refine (exec_load rfl rfl hSw.2.2.1).trans ?_ | refine (exec_load rfl rfl hSw.2).trans ?_ | refine (exec_load rfl rfl hSw.2.2).trans ?_); with_reducible rfl)
                          refine wpSched_r (v := ?v2) (hv := ?h2) ?_; case h2 => (intro w hSw; (first | refine (exec_load rfl rfl hSw).trans ?_ | refine (exec_load rfl rfl hSw.1).trans ?_ | refine (exec_load rfl rfl hSw.2.1).trans ?_ | refine (exec_load rfl rfl hSw.2.2.1).trans ?_ | refine (exec_load rfl rfl hSw.2).trans ?_ | refine (exec_load rfl rfl hSw.2.2).trans ?_); with_reducible rfl)
                          refine wpSched_t ?_
                          refine wpSched_t ?_
                          refine wpSched_t ?_
                          refine wpSched_t ?_
                          refine wpSched_t ?_
                          refine wpSched_t ?_
                          refine wpSched_r ?_
                          refine wpSched_r (v := ?v3) (hv := ?h3) ?_; case h3 => (intro w hSw; (first | refine (exec_load rfl rfl hSw).trans ?_ | refine (exec_load rfl rfl hSw.1).trans ?_ | refine (exec_load rfl rfl hSw.2.1).trans ?_ | refine (exec_load rfl rfl hSw.2.2.1).trans ?_ | refine (exec_load rfl rfl hSw.2).trans ?_ | refine (exec_load rfl rfl hSw.2.2).trans ?_); with_reducible rfl)
                          refine wpSched_force (fun K hK => ?_)
                          go_simp; (first | (go_at_call 17; (with_reducible refine (q11.out _ (bDr hx23)).mono ?_); rintro e w24 ⟨rfl, b24⟩; have B24 : Below w23.heap.size w23 w24 := bCall (bDr (bRefl _)) b24; have hx24 : Below w14.heap.size w14 w24 := bCall (bDr hx23) b24) | (go_at_call 15; (with_reducible refine (q12.out _ (by repeat (first | with_reducible exact hx24 | with_reducible refine bDr ?_))).mono ?_); rintro e w25 ⟨rfl, b25⟩; have B25 : Below w23.heap.size w23 w25 := bCall B24 b25) | skip)
                          refine shut_go hK KS ?_
                          clear hK K
                          refine wpSched_t ?_
                          refine wpSched_t ?_
                          refine wpSched_t ?_
                          refine wpSched_t ?_
                          refine wpSched_r (v := ?v4) (hv := ?h4) ?_; case h4 => (intro w hSw; (first | refine (exec_load rfl rfl hSw).trans ?_ | refine (exec_load rfl rfl hSw.1).trans ?_ | refine (exec_load rfl rfl hSw.2.1).trans ?_ | refine (exec_load rfl rfl hSw.2.2.1).trans ?_ | refine (exec_load rfl rfl hSw.2).trans ?_ | refine (exec_load rfl rfl hSw.2.2).trans ?_); with_reducible rfl)
                          refine wpSched_t ?_
                          refine wpSched_force (fun K hK => ?_)
                          go_simp; (first | (go_at_call 17; (with_reducible refine (q11.out _ (bDr hx23)).mono ?_); rintro e w24 ⟨rfl, b24⟩; have B24 : Below w23.heap.size w23 w24 := bCall (bDr (bRefl _)) b24; have hx24 : Below w14.heap.size w14 w24 := bCall (bDr hx23) b24) | (go_at_call 15; (with_reducible refine (q12.out _ (by repeat (first | with_reducible exact hx24 | with_reducible refine bDr ?_))).mono ?_); rintro e w25 ⟨rfl, b25⟩; have B25 : Below w23.heap.size w23 w25 := bCall B24 b25) | skip)
                          refine shut_go hK KS ?_
                          clear hK K
                          refine wpSched_t ?_
                          refine wpSched_last ?_
                          first | simp only [List.map_nil] | simp only [List.map_cons, List.map_nil]
                          go_wp2_with fail
                          refine NoPanic.normal ?_
                          go_wp2_with fail
                          have hx25 := bCall hx23 B25
                          exact hT.out _ _ rfl rfl ⟨q + 1, some ⟨ga, 0, none⟩, words.length, by omega, by show Value.int .i64 _ = Value.int .i64 _; go_num, rfl, bCall hb14 hx25, hRf.out _ hx25⟩ (by show k - (intOf (Value.int .i64 _)).toNat < k - (intOf (U 211)).toNat; rw [h211.out]; simp [intOf]; omega)
                          -- >>
                        -- >>
                        -- >>
                        -- >>
                -- >>
                -- >>
              · have hm5 : decide (4 < (m.length : Int)) = true := decide_eq_true (by omega)
                go_wp2_with fail
                go_ret
                exact ⟨rfl, bCall hb hbw⟩
            · have hqk : q = k := by omega
              -- <<
              have hle : ss.length ≤ k := Nat.le_of_eq hsn.out
              rw [hqk, List.take_of_length_le hle] at hRB
              replace hb := bCall hb hbw
              replace h3 := (h3.below hbw).more hbw.size
              replace hqk := Lib.hid hqk
              clear BH hR hR19 hR20 h1 h2 hG hbw hle
              generalize wr = w30 at *
              go_wp2_with fail
              go_loopw [446] (fun i wr => ∃ t : Nat, t ≤ words.length ∧ i = .int .i64 t ∧ Below w30.heap.size w30 wr) (fun i _ => words.length - (intOf i).toNat)
              case atStart => exact ⟨0, Nat.zero_le _, rfl, bRefl _⟩
              case round =>
                obtain ⟨t, ht, rfl, hbt⟩ := hrel
                by_cases htt : t < words.length
                · obtain ⟨x, hx⟩ : ∃ x, Hid (words[t]? = some x) := ⟨_, Lib.hid (List.getElem?_eq_getElem htt)⟩
                  obtain ⟨y, hy, hyg, hyr⟩ := hsay.out t x hx.out
                  obtain ⟨b7, off7, rfl, hbb7, y0, y1, y2, y3, y4, y5⟩ := Ltr_at (hRB.below hbt) htt hy
                  obtain ⟨b8, off8, rfl, hbb8, x0, x1, x2⟩ := wd_at (h3.below hbt) htt hx.out
                  have qr := fun w => el_read y w
                  have hye : y.err = 0 := by unfold Ltr.err; rw [hyg]; rfl
                  rw [hyr, hye] at qr
                  unfold Ltr.agg Wd.agg at qr
                  replace qr := Lib.hid qr
                  have hne : ∀ w, (binOp .neq 50 (.agg #[.int .i64 x.x, .int .i64 x.y, .int .i64 x.z]) (.agg #[.int .i64 x.x, .int .i64 x.y, .int .i64 x.z])).run Tryd.prog w = .ok (.bool false) w := fun w => by
                    have h := run_neW x x w
                    rw [Wd.eqB_iff.2 rfl] at h
                    exact h
                  have BY := Blk.new wr 54 #[.int .i64 y.a0, .int .i64 y.b0, .int .i64 y.a1, .int .i64 y.b1, .int .i64 y.a2, .int .i64 y.b2] _ rfl
                  have bY := bAl (bRefl wr) (.cells #[.int .i64 y.a0, .int .i64 y.b0, .int .i64 y.a1, .int .i64 y.b1, .int .i64 y.a2, .int .i64 y.b2] 54)
                  have hws := hbt.size
                  clear hy hyg hyr hye
                  go_upto_region 86 with fail
                  clear y0 y1 y2 y3 y4 y5
                  generalize wr.alloc (.cells #[.int .i64 y.a0, .int .i64 y.b0, .int .i64 y.a1, .int .i64 y.b1, .int .i64 y.a2, .int .i64 y.b2] 54) = w31 at *
                  obtain ⟨k0, k1, k2, k3, k4, k5⟩ := BY.six
                  go_wp2_with fail
                  (with_reducible refine (qr.out _).mono ?_)
                  rintro e w32 ⟨rfl, b32⟩
                  clear k0 k1 k2 k3 k4 k5 qr
                  have bZ := bCall bY b32
                  have BW := Blk.new w32 50 #[.int .i64 x.x, .int .i64 x.y, .int .i64 x.z] _ rfl
                  have bW := bAl bZ (.cells #[.int .i64 x.x, .int .i64 x.y, .int .i64 x.z] 50)
                  go_upto_region 87 with fail
                  generalize w32.alloc (.cells #[.int .i64 x.x, .int .i64 x.y, .int .i64 x.z] 50) = w33 at *
                  have u0 := (bW.cell (p := ⟨b8, off8 + t * 3, none⟩) (by show b8 < wr.heap.size; omega)).trans x0
                  have u1 := (bW.cell (p := ⟨b8, off8 + t * 3 + 1, none⟩) (by show b8 < wr.heap.size; omega)).trans x1
                  have u2 := (bW.cell (p := ⟨b8, off8 + t * 3 + 2, none⟩) (by show b8 < wr.heap.size; omega)).trans x2
                  have v0 : w33.cell? ⟨w32.heap.size, 0, none⟩ = some (.int .i64 x.x) := BW.cell 0
                  have v1 : w33.cell? ⟨w32.heap.size, 1, none⟩ = some (.int .i64 x.y) := BW.cell 1
                  have v2 : w33.cell? ⟨w32.heap.size, 2, none⟩ = some (.int .i64 x.z) := BW.cell 2
                  have hbw := bCall hbt bW
                  have i2 : (t : Int) < (words.length : Int) := by omega
                  have i3 : (0 : Int) ≤ (t : Int) := by omega
                  clear x0 x1 x2 bW bZ bY b32
                  go_quiet (fail)
                  go_wp2_with fail
                  exact ⟨⟨t + 1, by omega, by go_num, bDrN hbw _⟩, by simp [intOf]; omega⟩
                · obtain rfl : t = words.length := by omega
                  go_wp2_with fail
                  go_ret
                  exact ⟨ret_bool (by simp), bCall hb hbt⟩
              -- >>
end Go.Proofs.YtoeobcmmafncmaaDoor
