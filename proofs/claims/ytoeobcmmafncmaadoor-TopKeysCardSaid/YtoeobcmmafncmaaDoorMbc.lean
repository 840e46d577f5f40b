/-
  paths.leads: a letter that is sealed again, compared.
-/
import Derived.Test.YtoeobcmmafncmaaDoorMbb
import Derived.Test.YtoeobcmmafncmaaDoorMag
import Derived.Laws.IdiomStrings
import Derived.Lib.SlBytesRow
namespace Go.Proofs.YtoeobcmmafncmaaDoor
open Go.RowKit

end Go.Proofs.YtoeobcmmafncmaaDoor

/-
  paths.text, walked.
-/
namespace Go.Proofs.YtoeobcmmafncmaaDoor
open Go.RowKit

/-- A digest as a text. -/
def dgB (d : List Nat) : List UInt8 := d.map fun n => UInt8.ofNat n
def dgS (d : List Nat) : ByteArray := ⟨(dgB d).toArray⟩
/-- A number or a digest. -/
inductive Nd where
  | int (n : Int)
  | dig (d : List Nat)
def Nd.val : Nd → Value
  | .int n => .iface 3 (.int .i64 n)
  | .dig d => .iface 30 (.agg (byts d).toArray)
def Nd.it : Nd → It
  | .int n => .int n
  | .dig d => .text (dgS d)
def Nd.ok : Nd → Prop
  | .int n => inI n
  | .dig d => d.length = 32 ∧ okB d
theorem Nd.it_ok {x : Nd} (h : x.ok) : x.it.ok := by
  cases x with
  | int n => exact h
  | dig d => show (dgS d).size ≤ 1000000; obtain ⟨h1, _⟩ := h; simp [dgS, dgB, ByteArray.size, h1]
theorem dgB_at {d : List Nat} (h : okB d) (j : Nat) (hj : j < (dgB d).length) : ((dgB d)[j].toNat : Int) = (d.getD j 0 : Nat) := by
  have hj' : j < d.length := by simpa [dgB] using hj
  have := h d[j] (List.getElem_mem hj')
  simp [dgB, hj', Nat.mod_eq_of_lt this]
theorem convert_dig {w : World} {g : Nat} {d : List Nat} (h : Blk w g 30 (byts d).toArray) (hl : d.length = 32) (ho : okB d) : (convert 24 9 (.slice (some ⟨g, 0, none⟩) 32 32)).run Tryd.prog w = .ok (.string (dgS d)) w := by
  have := run_convert_bytes_back (P := Tryd.prog) w 24 9 5 ⟨g, 0, none⟩ 32 (dgB d) Tryd.underlying24 Tryd.underlying5 Tryd.underlying9 (fun j hj => by
    have hj' : j < d.length := by simpa [dgB] using hj
    rw [addr_plus, Nat.zero_add, h.cell j, dgB_at ho j hj]
    simp [byts, hj'])
  rw [show (dgB d).length = 32 by simp [dgB, hl]] at this
  exact this

theorem assert_int (m : Int) (w : World) : (Instr.typeAssert (.iface 3 (.int .i64 m)) 20 3 true).run Tryd.prog w = .ok (.tuple #[.int .i64 m, .bool true]) w := by kernel_rfl
theorem assert_int_no (cs : Array Value) (w : World) : (Instr.typeAssert (.iface 30 (.agg cs)) 20 3 true).run Tryd.prog w = .ok (.tuple #[.int .i64 0, .bool false]) w := by kernel_rfl
theorem assert_dig (cs : Array Value) (w : World) : (Instr.typeAssert (.iface 30 (.agg cs)) 20 30 true).run Tryd.prog w = .ok (.tuple #[.agg cs, .bool true]) w := by kernel_rfl
end Go.Proofs.YtoeobcmmafncmaaDoor
