/- The reference's Check (of a case), walked. -/
import Derived.Test.YtgkpomdegomgiaaGreatDoorMbt
set_option maxRecDepth 1000000
set_option maxHeartbeats 16000000
namespace Go.Proofs.YtgkpomdegomgiaaGreatDoor
open Go.RowKit
theorem restAt_valid {c:Cs} (hv:∀ k∈c.keys,validB k=true) {i:Nat} (hi:i≤c.keys.length):validB (c.restAt i)=true∧(restL c.keys)[i]?=some (c.restAt i):=by
  have hl:=restL_length c.keys
  have h1:(restL c.keys)[i]?=some (restL c.keys)[i]:=List.getElem?_eq_getElem (by omega)
  have h2:c.restAt i=(restL c.keys)[i]:=by unfold Cs.restAt;rw [List.getD_eq_getElem?_getD,h1];rfl
  rw [h2]
  exact ⟨restL_valid hv _ (List.getElem_mem _),h1⟩
theorem after_why {c:Cs} {i p:Nat} (hr:validB (c.restAt (i+1))=true) :
    (afterP (c.keyAt i) (c.restAt (i+1)) (c.jobAt i) (c.stepAt i) (c.inAt i) p).2=c.whyAt i p∧(c.whyAt i p=0→(afterP (c.keyAt i) (c.restAt (i+1)) (c.jobAt i) (c.stepAt i) (c.inAt i) p).1=(((c.stepAt i).right.at_.toNat:Nat):Int)):=by
  unfold afterP
  by_cases hm:(c.stepAt i).mid = -1
  · rw [if_pos hm,Cs.why5 hm]
    exact ⟨rfl,fun h=>by omega⟩
  rw [if_neg hm]
  cases hs:strippedB (c.keyAt i) (c.inAt i) (c.jobAt i) p
  · rw [if_neg (by simp),Cs.why3 hm hs]
    exact ⟨rfl,fun h=>by omega⟩
  rw [if_pos rfl,opened_eq hr hs]
  cases ho:openedB (c.restAt (i+1)) (c.inAt i).length (c.jobAt i) (c.stepAt i) p
  · rw [if_neg (by simp),Cs.why4 hm hs ho]
    exact ⟨rfl,fun h=>by omega⟩
  · rw [if_pos rfl,Cs.why0 hm hs ho]
    have:=opened_lt ho
    exact ⟨rfl,fun _=>by show (c.stepAt i).right.at_=_;omega⟩
theorem Cs.way_empty (c:Cs) {n i p:Nat} (hi:i<n) (he:(c.jobAt i).emptyB=true):c.way (n - i) i p=c.way (n - (i+1)) (i+1) p:=by
  rw [show n - i=(n - (i+1))+1 by omega]
  show (if (c.jobAt i).emptyB=true then _ else _)=_
  rw [if_pos he]
def chkV (R:Int×Int×Int):Value := .tuple #[.int .i64 R.1,.int .i64 R.2.1,.int .i64 R.2.2]
end Go.Proofs.YtgkpomdegomgiaaGreatDoor
