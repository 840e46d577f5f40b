/- Arguments, opened: a slice of structs or numbers as a list. -/
import Derived.Test.YtmbopkcmbiommaaGreatDoorRac
import Derived.ProofKit
import Derived.OpenShut
import Derived.ShutString
import Derived.ChangeOld
import Derived.Below
import Derived.Deep.Slices
import Derived.Deep.Fields
set_option maxRecDepth 1000000
set_option maxHeartbeats 16000000
namespace Go.Proofs.YtmbopkcmbiommaaGreatDoor
open Go.ChangeShapes Go.WideShapes Go.ChangeAt Go.RowKit Go.Deep
theorem own_knob : ownKnob Tryz.prog.godebug = none := by kernel_rfl
theorem laid_out : laidOutB Tryz.prog = true := by kernel_rfl
section
variable {H : Type} {enc : TypeId × Value → H} {P : Program} {w : World} {base : Nat} {spare : Nat → Bool} {held : Bool}
def isI64 : Option TypeDesc → Bool
  | some (.int .i64) => true
  | _ => false
def allInts (P : Program) (fs : Array Field) : Bool := (List.range fs.size).all fun i => match fs[i]? with
  | some f => f.offset == i && (P.cellsOf f.type == 1 && isI64 (P.underlying f.type))
  | none => false
end
end Go.Proofs.YtmbopkcmbiommaaGreatDoor
namespace Go.Proofs.YtmbopkcmbiommaaGreatDoor
open Go.RowKit
theorem flat_mem {α : Type} {f : α → List Value} {sz : Nat} : ∀ (l : List α) (i j : Nat) (x : α), (∀ y ∈ l, (f y).length = sz) → l[i]? = some x → j < sz → (l.flatMap f)[i * sz + j]? = (f x)[j]?
  | [], i, j, x, _, h, _ => by simp at h
  | y :: l, 0, j, x, hf, h, hj => by
    simp only [List.getElem?_cons_zero, Option.some.injEq] at h
    subst h
    rw [List.flatMap_cons, Nat.zero_mul, Nat.zero_add, List.getElem?_append_left (by rw [hf _ (by simp)]; exact hj)]
  | y :: l, i + 1, j, x, hf, h, hj => by
    simp only [List.getElem?_cons_succ] at h
    rw [List.flatMap_cons, List.getElem?_append_right (by rw [hf _ (by simp), Nat.succ_mul]; omega), hf _ (by simp)]
    have : (i + 1) * sz + j - sz = i * sz + j := by rw [Nat.succ_mul]; omega
    rw [this]
    exact flat_mem l i j x (fun z hz => hf z (List.mem_cons_of_mem _ hz)) h hj
end Go.Proofs.YtmbopkcmbiommaaGreatDoor
