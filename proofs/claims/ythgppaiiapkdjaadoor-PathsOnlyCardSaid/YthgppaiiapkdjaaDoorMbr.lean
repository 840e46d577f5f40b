/-
  The law 'bare' in plain words: what is sealed as its path says, and what is not; words by '=='.
-/
import Derived.Test.YthgppaiiapkdjaaDoorMbi
import Derived.Test.YthgppaiiapkdjaaDoorMbb
namespace Go.Proofs.YthgppaiiapkdjaaDoor
open Go.RowKit

section
variable {ss : List Int} {first : List Ltr} {place : Int} {w v : Wd} {r0 r1 r2 : Int}
theorem bare_rest0 : (bareCase ss first place w r0 r1 r2).restAt 0 = (restL (ss.map pubV)).getD 0 0 := rfl
theorem keys_valid (hs : ∀ s ∈ ss, secB s = true) : ∀ k ∈ ss.map pubV, validB k = true := fun k hk => by
  obtain ⟨s, h1, rfl⟩ := List.mem_map.1 hk
  exact pub_valid (hs s h1)
theorem bare_sealed_of {J : Int} (hJ : (restL (ss.map pubV)).getD 0 0 = J) {L : Ltr} (hL : first[place.toNat]? = some L) :
    (bareCase ss first place v r0 r1 r2).sealed = (decide (sealE J v.x v.y v.z = 0) && (sealV J v.x v.y v.z r0 r1 r2).eqB L) := by
  unfold Cs.sealed
  rw [bare_rest0, hJ]
  have : (bareCase ss first place v r0 r1 r2).first.getD (bareCase ss first place v r0 r1 r2).place.toNat zeroL = L := by
    show first.getD place.toNat zeroL = L
    rw [List.getD_eq_getElem?_getD, hL]; rfl
  rw [this]
  rfl
theorem bare_sealed_iff (hs : ∀ s ∈ ss, secB s = true) (hw : w.ok) (hL : first[place.toNat]? = some (moreL ((restL (ss.map pubV)).getD 0 0) r0 r1 r2 (seal0 w.x w.y w.z))) :
    (bareCase ss first place v r0 r1 r2).sealed = true ↔ v = w := by
  have hJ := rest_head_valid (keys_valid hs)
  generalize hJe : (restL (ss.map pubV)).getD 0 0 = J at *
  rw [bare_sealed_of hJe hL]
  constructor
  · intro h
    rw [Bool.and_eq_true, decide_eq_true_eq] at h
    obtain ⟨h1, h2⟩ := h
    have hv : v.ok := by
      unfold sealE at h1
      rw [if_pos hJ] at h1
      split at h1
      · rename_i hb; exact sealB_ok.1 hb
      · omega
    have h3 := Ltr.eqB_iff.1 h2
    rw [(seal_is hv hJ r0 r1 r2).1] at h3
    exact seal_inj hJ hv hw h3
  · rintro rfl
    rw [(seal_is hw hJ r0 r1 r2).1, (seal_is hw hJ r0 r1 r2).2, Ltr.eqB_iff.2 rfl]
    rfl
theorem bare_sealed_next (hs : ∀ s ∈ ss, secB s = true) (hw : w.ok) (hL : first[place.toNat]? = some (moreL ((restL (ss.map pubV)).getD 0 0) r0 r1 r2 (seal0 w.x w.y w.z))) :
    (bareCase ss first place w r0 (r1.tmod 1073741789 + 1) r2).sealed = false := by
  have hJ := rest_head_valid (keys_valid hs)
  generalize hJe : (restL (ss.map pubV)).getD 0 0 = J at *
  rw [bare_sealed_of hJe hL, (seal_is hw hJ r0 (r1.tmod 1073741789 + 1) r2).1]
  cases hc : (moreL J r0 (r1.tmod 1073741789 + 1) r2 (seal0 w.x w.y w.z)).eqB (moreL J r0 r1 r2 (seal0 w.x w.y w.z))
  · rw [Bool.and_false]
  · exact absurd (Ltr.eqB_iff.1 hc) seal_next
end
theorem eqWords (a b c d e f : Int) (w : World) : (Op.equalIn 10000 28 (.agg #[.int .i64 a, .int .i64 b, .int .i64 c]) (.agg #[.int .i64 d, .int .i64 e, .int .i64 f])).run Tryd.prog w = .ok (a == d && (b == e && c == f)) w := by
  have u3 := Tryd.underlying3
  have a3 := Tryd.isAgg3
  have z3 := Tryd.sizeOf3
  rw [show (10000 : Nat) = 9999 + 1 from rfl, Op.equalIn]
  simp only [Sem.run_bind, run_underlying Tryd.underlying28, Result.andThen_ok]
  simp only [Std.Legacy.Range.forIn_eq_forIn_range', Std.Legacy.Range.size, Nat.sub_zero, Nat.add_sub_cancel, Nat.div_one, List.range'_succ, List.range'_zero, List.forIn_cons, List.forIn_nil]
  have e1 := fun (x y : Int) => run_equalIn_int w 9998 3 .i64 .i64 x y Tryd.underlying3
  go_simp
  by_cases h1 : a = d <;> by_cases h2 : b = e <;> by_cases h3 : c = f <;> simp [h1, h2, h3]
def Wd.eqB (v u : Wd) : Bool := v.x == u.x && (v.y == u.y && v.z == u.z)
theorem Wd.eqB_iff {v u : Wd} : v.eqB u = true ↔ v = u := by
  obtain ⟨a, b, c⟩ := v
  obtain ⟨d, e, f⟩ := u
  simp [Wd.eqB]
theorem run_eqW (v u : Wd) (w : World) : (binOp .eql 28 v.agg u.agg).run Tryd.prog w = .ok (.bool (v.eqB u)) w := by
  unfold Wd.agg Wd.eqB
  rw [run_eql_struct, eqWords]; rfl
theorem run_neW (v u : Wd) (w : World) : (binOp .neq 28 v.agg u.agg).run Tryd.prog w = .ok (.bool (!(v.eqB u))) w := by
  unfold Wd.agg Wd.eqB
  rw [run_neq_struct, eqWords]; rfl
end Go.Proofs.YthgppaiiapkdjaaDoor
