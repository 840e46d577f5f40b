/- slices.Index over strings; reports.rows; walked. -/
import Derived.Test.YtmbopkcmbiommaaGreatDoorRar
set_option maxRecDepth 1000000
set_option maxHeartbeats 16000000
namespace Go.Proofs.YtmbopkcmbiommaaGreatDoor
open Go Go.RowKit
def strs (l : List ByteArray) : List Value := l.map Value.string
theorem Str_at {w : World} {B n k : Nat} {A : Option Addr} {l : List ByteArray} {x : ByteArray} (h : Rd w B 1 A n (strs l)) (hn : k < n) (hx : l[k]? = some x) :
    ∃ b off, A = some ⟨b, off, none⟩ ∧ b < B ∧ w.cell? ⟨b, off + k, none⟩ = some (.string x) := by
  obtain ⟨b, off, hA, hb, hc⟩ := h.2 (by omega)
  exact ⟨b, off, hA, hb, hc _ _ (by unfold strs; rw [List.getElem?_map, hx]; rfl)⟩
theorem str_ne {s x : ByteArray} (h : s ≠ x) : (s.toList == x.toList) = false := by
  cases e : (s.toList == x.toList)
  · rfl
  · rw [ByteArray.toList_eq, ByteArray.toList_eq] at e
    exact absurd (ByteArray.ext (Array.toList_inj.1 (eq_of_beq e))) h
theorem index_str (A : Option Addr) (c : Nat) (l : List ByteArray) (s : ByteArray) (W : World) (hA : Rd W W.heap.size 1 A l.length (strs l)) (hn : l.length ≤ 1000000) :
    Calls Tryz.prog 88 #[.slice A l.length c, .string s] W (Same (.int .i64 (firstI (fun t => decide (s = t)) l)) W) := by
  obtain ⟨v, hv⟩ : ∃ v, Hid (firstI (fun t => decide (s = t)) l = v) := ⟨_, Lib.hid rfl⟩
  rw [hv.out]
  go_enter Tryz.func88, Tryz.ntmps88
  go_wp2_with fail
  go_loopw [8] (fun i wr => ∃ k : Nat, k ≤ l.length ∧ i = .int .i64 k ∧ W = wr ∧ Hid (∀ y ∈ l.take k, decide (s = y) = false)) (fun i _ => l.length - (intOf i).toNat)
  case atStart => exact ⟨0, Nat.zero_le _, rfl, rfl, Lib.hid (by simp)⟩
  case round =>
    obtain ⟨k, hkn, rfl, rfl, hp⟩ := hrel
    by_cases hlt : k < l.length
    · obtain ⟨x, hx⟩ : ∃ x, Hid (l[k]? = some x) := ⟨_, Lib.hid (List.getElem?_eq_getElem hlt)⟩
      obtain ⟨b, off, rfl, hbb, c0⟩ := Str_at hA hlt hx.out
      have i0 : (0 : Int) ≤ (k : Int) := by omega
      have i1 : (k : Int) < (l.length : Int) := by omega
      by_cases hg : s = x
      · have hres := Lib.hid (hv.out.symm.trans (firstI_at hp.out hx.out (decide_eq_true hg)))
        subst hg
        go_wp2_with fail
        go_ret
        exact ⟨ret_int hres.out.symm, rfl⟩
      · have hp' := Lib.hid (take_on (p := fun t => decide (s = t)) hp.out hx.out (decide_eq_false hg))
        have hg2 := str_ne hg
        clear hg
        go_wp2_with fail
        exact ⟨⟨k + 1, by omega, by go_num, trivial, hp'⟩, by simp [intOf]; omega⟩
    · have hres : Hid (v = -1) := Lib.hid (hv.out.symm.trans (firstI_none (by have := hp.out; rwa [List.take_of_length_le (by omega)] at this)))
      go_wp2_with fail
      go_ret
      exact ⟨ret_int hres.out.symm, rfl⟩
def rowsB : List ByteArray := [⟨#[119, 111, 114, 108, 100]⟩, ⟨#[99, 108, 97, 115, 115]⟩, ⟨#[116, 105, 101, 114]⟩, ⟨#[108, 105, 110, 101]⟩, ⟨#[114, 117, 108, 101]⟩, ⟨#[103, 97, 112]⟩, ⟨#[111, 114, 100, 101, 114]⟩, ⟨#[101, 110, 116, 114, 121]⟩, ⟨#[115, 101, 99, 114, 101, 116]⟩, ⟨#[102, 97, 117, 108, 116]⟩]
theorem rep_rows (W : World) : Calls Tryz.prog 89 #[] W (fun r w' => r = .returned (.slice (some ⟨W.heap.size, 0, none⟩) 10 10) ∧ w' = W.alloc (.cells (strs rowsB).toArray 9)) := by
  go_enter Tryz.func89, Tryz.ntmps89
  go_wp2_with fail
  go_ret
  exact ⟨rfl, rfl⟩
def folB (pr : ByteArray → Int) (s l : ByteArray) : Bool :=
  if (s.toList == [119, 111, 114, 108, 100]) = true then decide (pr l < 0)
  else if (s.toList == [108, 105, 110, 101]) = true then decide (0 ≤ pr l) && decide (pr l ≤ pr ⟨#[103, 97, 112]⟩)
  else if (s.toList == [114, 117, 108, 101]) = true then (l.toList == [108, 105, 110, 101]) || (l.toList == [114, 117, 108, 101])
  else if (s.toList == [103, 97, 112]) = true then ((l.toList == [108, 105, 110, 101]) || (l.toList == [114, 117, 108, 101])) || (l.toList == [103, 97, 112])
  else (decide (0 ≤ pr s) && decide (0 ≤ pr l)) && decide (pr l ≤ pr s)
theorem rep_follows (R : Nat) (s l : ByteArray) (W : World) (hl : ∀ w', Below W.heap.size W w' → w'.cell? ⟨R, 43, none⟩ = some (.string l)) :
    Calls Tryz.prog 56 #[.pointer (some ⟨R, 0, none⟩), .string s] W (fun r w' => Ret (.bool (folB (fun s => firstI (fun t => decide (s = t)) rowsB) s l)) W r w') := by
  have KS : Hid (∀ w', Below W.heap.size W w' → w'.cell? ⟨R, 43, none⟩ = some (.string l)) := Lib.hid hl
  obtain ⟨pr, hpr⟩ : ∃ pr : ByteArray → Int, (fun s => firstI (fun t => decide (s = t)) rowsB) = pr := ⟨_, rfl⟩
  have qi : Hid (∀ (b : Nat) (w : World) (s : ByteArray), Blk w b 9 (strs rowsB).toArray → Calls Tryz.prog 88 #[.slice (some ⟨b, 0, none⟩) 10 10, .string s] w (Same (.int .i64 (pr s)) w)) := Lib.hid (fun b w s B => by
    rw [← hpr]
    exact index_str (some ⟨b, 0, none⟩) 10 rowsB s w ⟨rfl, fun _ => ⟨b, 0, rfl, B.lt, fun j u hu => by rw [Nat.zero_add, B.cell, List.getElem?_toArray]; exact hu⟩⟩ (by decide))
  have qr : Hid (∀ w : World, Calls Tryz.prog 89 #[] w (fun r w' => ∃ b, r = .returned (.slice (some ⟨b, 0, none⟩) 10 10) ∧ Below w.heap.size w w' ∧ Blk w' b 9 (strs rowsB).toArray)) := Lib.hid (fun w => (rep_rows w).mono (by
    rintro r w' ⟨rfl, rfl⟩
    exact ⟨_, rfl, bAl (bRefl w) _, Blk.new w _ _ _ rfl⟩))
  rw [hpr]
  clear hpr hl
  generalize (strs rowsB).toArray = RB at *
  go_enter Tryz.func56, Tryz.ntmps56
  go_upto_region 1 with fail
  refine wp_region_schN (g := 0) KS [(1, 1), (4, 1), (5, 1), (6, 1), (7, 2), (0, 0), (2, 0), (3, 0), (8, 0), (9, 0), (10, 0)] ?_
  simp only [pickS, List.getElem?_cons_zero, List.getElem?_cons_succ]
  refine wpSchedN_t ?_
  refine wpSchedN_t ?_
  refine wpSchedN_t ?_
  refine wpSchedN_t ?_
  refine wpSchedN_r ?_
  refine wpSchedN_force (fun K hK => ?_)
  go_simp; (first | (go_at_call 88; (with_reducible refine (qi.out _ _ l H7).mono ?_); rintro e w9 ⟨rfl, rfl⟩) | (go_at_call 88; (with_reducible refine (qi.out _ _ s H6).mono ?_); rintro e w9 ⟨rfl, rfl⟩) | (go_at_call 89; (with_reducible refine (qr.out _).mono ?_); rintro e w7 ⟨g7, rfl, b7, H7⟩; have B7 := bCall B6 b7) | (go_at_call 89; (with_reducible refine (qr.out _).mono ?_); rintro e w6 ⟨g6, rfl, b6, H6⟩; have B6 : Below W.heap.size W w6 := bCall (bDr (bRefl _)) b6) | skip)
  refine shut_go hK KS ?_
  clear hK K
  refine wpSchedN_force (fun K hK => ?_)
  go_simp; (first | (go_at_call 88; (with_reducible refine (qi.out _ _ l H7).mono ?_); rintro e w9 ⟨rfl, rfl⟩) | (go_at_call 88; (with_reducible refine (qi.out _ _ s H6).mono ?_); rintro e w9 ⟨rfl, rfl⟩) | (go_at_call 89; (with_reducible refine (qr.out _).mono ?_); rintro e w7 ⟨g7, rfl, b7, H7⟩; have B7 := bCall B6 b7) | (go_at_call 89; (with_reducible refine (qr.out _).mono ?_); rintro e w6 ⟨g6, rfl, b6, H6⟩; have B6 : Below W.heap.size W w6 := bCall (bDr (bRefl _)) b6) | skip)
  refine shut_go hK KS ?_
  clear hK K
  refine wpSchedN_force (fun K hK => ?_)
  go_simp; (first | (go_at_call 88; (with_reducible refine (qi.out _ _ l H7).mono ?_); rintro e w9 ⟨rfl, rfl⟩) | (go_at_call 88; (with_reducible refine (qi.out _ _ s H6).mono ?_); rintro e w9 ⟨rfl, rfl⟩) | (go_at_call 89; (with_reducible refine (qr.out _).mono ?_); rintro e w7 ⟨g7, rfl, b7, H7⟩; have B7 := bCall B6 b7) | (go_at_call 89; (with_reducible refine (qr.out _).mono ?_); rintro e w6 ⟨g6, rfl, b6, H6⟩; have B6 : Below W.heap.size W w6 := bCall (bDr (bRefl _)) b6) | skip)
  refine shut_go hK KS ?_
  clear hK K
  refine wpSchedN_force (fun K hK => ?_)
  go_simp; (first | (go_at_call 88; (with_reducible refine (qi.out _ _ l H7).mono ?_); rintro e w9 ⟨rfl, rfl⟩) | (go_at_call 88; (with_reducible refine (qi.out _ _ s H6).mono ?_); rintro e w9 ⟨rfl, rfl⟩) | (go_at_call 89; (with_reducible refine (qr.out _).mono ?_); rintro e w7 ⟨g7, rfl, b7, H7⟩; have B7 := bCall B6 b7) | (go_at_call 89; (with_reducible refine (qr.out _).mono ?_); rintro e w6 ⟨g6, rfl, b6, H6⟩; have B6 : Below W.heap.size W w6 := bCall (bDr (bRefl _)) b6) | skip)
  refine shut_go hK KS ?_
  clear hK K
  refine wpSchedN_force (fun K hK => ?_)
  go_simp; (first | (go_at_call 88; (with_reducible refine (qi.out _ _ l H7).mono ?_); rintro e w9 ⟨rfl, rfl⟩) | (go_at_call 88; (with_reducible refine (qi.out _ _ s H6).mono ?_); rintro e w9 ⟨rfl, rfl⟩) | (go_at_call 89; (with_reducible refine (qr.out _).mono ?_); rintro e w7 ⟨g7, rfl, b7, H7⟩; have B7 := bCall B6 b7) | (go_at_call 89; (with_reducible refine (qr.out _).mono ?_); rintro e w6 ⟨g6, rfl, b6, H6⟩; have B6 : Below W.heap.size W w6 := bCall (bDr (bRefl _)) b6) | skip)
  refine shut_go hK KS ?_
  clear hK K
  refine wpSchedN_force (fun K hK => ?_)
  go_simp; (first | (go_at_call 88; (with_reducible refine (qi.out _ _ l H7).mono ?_); rintro e w9 ⟨rfl, rfl⟩) | (go_at_call 88; (with_reducible refine (qi.out _ _ s H6).mono ?_); rintro e w9 ⟨rfl, rfl⟩) | (go_at_call 89; (with_reducible refine (qr.out _).mono ?_); rintro e w7 ⟨g7, rfl, b7, H7⟩; have B7 := bCall B6 b7) | (go_at_call 89; (with_reducible refine (qr.out _).mono ?_); rintro e w6 ⟨g6, rfl, b6, H6⟩; have B6 : Below W.heap.size W w6 := bCall (bDr (bRefl _)) b6) | skip)
  refine shut_go hK KS ?_
  clear hK K
  refine anyN_end ?_
  refine NoPanic.normal ?_
  have c7 := KS.out _ B7
  clear KS
  go_wp2_with (first | (go_at_call 88; (with_reducible refine (qi.out _ _ _ (by assumption)).mono ?_); rintro e w9 ⟨rfl, rfl⟩) | (go_at_call 89; (with_reducible refine (qr.out _).mono ?_); rintro e w8 ⟨g8, rfl, b8, H8⟩; have B8 := bCall B7 b8))
  all_goals (try (go_ret; refine ⟨ret_bool ?_, by assumption⟩; simp [folB, *] <;> (intros; omega)))
end Go.Proofs.YtmbopkcmbiommaaGreatDoor
