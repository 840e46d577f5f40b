/-
  A slice of events that came in.
-/
import Derived.Test.YtcadkfaaogclfaaCuP
import Derived.Test.YtcadkfaaogclfaaOpen
namespace Go.Proofs.Ytcadkfaaogclfaa
open Go.ChangeShapes Go.WideShapes Go.ChangeAt Go.RowKit Go.Deep

theorem cells_event : Try.prog.cellsOf 36 = 4 := by kernel_rfl
theorem cells_int : Try.prog.cellsOf 3 = 1 := by kernel_rfl

section
variable {H : Type} {enc : TypeId × Value → H} {w : World} {base : Nat} {spare : Nat → Bool} {held : Bool}
theorem open_event (n : Nat) (cs : List Value) (y : DataW H × List MemPlace) (h : DataW.trod enc Try.prog w base spare held n 36 cs = some y) : ∃ a : Ev, cs = a.cells ∧ True := by
  obtain ⟨zs, hl, rfl, _⟩ := open_struct_ints Try.underlying36 (by kernel_rfl) cells_event h
  match zs, hl with
  | [a0, a1, a2, a3], _ => exact ⟨⟨a0, a1, a2, a3⟩, rfl, trivial⟩
theorem open_events {fuel : Nat} {cs : List Value} {x : DataW H × List MemPlace} (h : DataW.trod enc Try.prog w base spare held fuel 22 cs = some x) :
    ∃ (A : Option Addr) (n c : Nat) (l : List Ev), cs = [.slice A n c] ∧ l.length = n ∧ n ≤ maxLen ∧ Rd w w.heap.size 4 A n (l.flatMap Ev.cells) := by
  obtain ⟨A, n, c, l, h1, h2, h3, h4, _⟩ := open_slice_as (f := Ev.cells) (Pr := fun _ => True) Try.underlying22 cells_event (by omega) Ev.cells_length open_event h
  exact ⟨A, n, c, l, h1, h2, h3, h4⟩
end

/-- What a law's row asks behind the walk: what was there lies as it lay. -/
theorem arg_stays {H : Type} {enc : TypeId × Value → H} {t : TypeId} (hr : Try.prog.readableRec t = true) (hrow : t < Try.prog.types.size) {W W' : World} {v : Value} {d : DataW H} {ps : List MemPlace}
    (h : DataW.Trod enc Try.prog W 0 (fun _ => true) true t v d ps) (hb : Below W.heap.size W W') : DataW.Trod enc Try.prog W' 0 (fun b => decide (b < W.heap.size)) true t v d ps :=
  Below.trod laid_out hr hrow h hb (by obtain ⟨m, hm⟩ := h; exact DataW.trod_lt m _ _ _ hm)

end Go.Proofs.Ytcadkfaaogclfaa
