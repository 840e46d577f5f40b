/- Cases in which nobody works: plain. -/
import Derived.Test.YtgkpomdegomgiaaGreatDoorMax
set_option maxRecDepth 1000000
set_option maxHeartbeats 16000000
namespace Go.Proofs.YtgkpomdegomgiaaGreatDoor
open Go.RowKit
def bareJob (s:Int) (b:List Ltr):Jb:=⟨bareX s b,bareP s b,[],[],[],[],[]⟩
def bareJobs:List Int→List Ltr→List Jb
  | [],_=>[]
  | s::ss,b=>bareJob s b::bareJobs ss (bareX s b)
def bareLast:List Int→List Ltr→List Ltr
  | [],b=>b
  | s::ss,b=>bareLast ss (bareX s b)
theorem bareJobs_length:∀ (ss:List Int) (b:List Ltr),(bareJobs ss b).length=ss.length
  | [],_=>rfl
  | s::ss,b=>by show (bareJobs ss (bareX s b)).length+1=_;rw [bareJobs_length];rfl
theorem bareJobs_at:∀ {ss:List Int} {b:List Ltr} {i:Nat} {s:Int},ss[i]?=some s→(bareJobs ss b)[i]?=some (bareJob s (bareLast (ss.take i) b))
  | [],_,_,_,h=>by simp at h
  | t::ss,b,0,s,h=>by
    simp only [List.getElem?_cons_zero,Option.some.injEq] at h
    subst h;rfl
  | t::ss,b,i+1,s,h=>by
    simp only [List.getElem?_cons_succ] at h
    exact bareJobs_at (b:=bareX t b) h
theorem bareLast_snoc:∀ (ss:List Int) (b:List Ltr) (s:Int),bareLast (ss++[s]) b=bareX s (bareLast ss b)
  | [],_,_=>rfl
  | t::ss,b,s=>bareLast_snoc ss (bareX t b) s
theorem bareLast_chk:∀ {ss:List Int} {b:List Ltr},chkL b=0→chkL (bareLast ss b)=0
  | [],_,h=>h
  | _::ss,_,h=>bareLast_chk (ss:=ss) (chkL_bareX h)
theorem bareLast_length:∀ (ss:List Int) (b:List Ltr),(bareLast ss b).length=b.length
  | [],_=>rfl
  | s::ss,b=>by show (bareLast ss (bareX s b)).length=_;rw [bareLast_length];unfold bareX;simp
def bareCase (ss:List Int) (first:List Ltr) (place:Int) (w:Wd) (r0 r1 r2:Int):Cs:=⟨first,ss.map pubV,bareJobs ss first,place,w,r0,r1,r2,[]⟩
section
variable {ss:List Int} {first:List Ltr} {place:Int} {w:Wd} {r0 r1 r2:Int}
theorem bareCase_job {i:Nat} {s:Int} (h:ss[i]?=some s):(bareCase ss first place w r0 r1 r2).jobAt i=bareJob s (bareLast (ss.take i) first):=by
  unfold Cs.jobAt bareCase
  rw [List.getD_eq_getElem?_getD,bareJobs_at h];rfl
theorem bareCase_in:∀ {i:Nat},i≤ss.length→(bareCase ss first place w r0 r1 r2).inAt i=bareLast (ss.take i) first
  | 0,_=>by rw [List.take_zero];rfl
  | i+1,h=>by
    have hs:ss[i]?=some ss[i]:=List.getElem?_eq_getElem (by omega)
    show nextL ((bareCase ss first place w r0 r1 r2).jobAt i)=_
    rw [bareCase_job hs,List.take_succ_eq_append_getElem (by omega),bareLast_snoc]
    rfl
theorem bareCase_key {i:Nat} {s:Int} (h:ss[i]?=some s):(bareCase ss first place w r0 r1 r2).keyAt i=pubV s:=by
  unfold Cs.keyAt bareCase
  rw [List.getD_eq_getElem?_getD,List.getElem?_map,h];rfl
theorem bareCase_valid (hs:∀ s∈ss,secB s=true):(bareCase ss first place w r0 r1 r2).valid=true:=by
  unfold Cs.valid bareCase
  rw [List.all_eq_true]
  intro k hk
  obtain ⟨s,h1,rfl⟩:=List.mem_map.1 hk
  exact pub_valid (hs s h1)
theorem bareCase_formed (h2:2≤ss.length) (h9:ss.length≤9) (h0:first.length≠0) (hc:chkL first=0) (hp0:0≤place) (hp1:place<first.length):(bareCase ss first place w r0 r1 r2).formed=true:=by
  obtain ⟨c1,c2⟩:=chkL_ok.1 hc
  unfold Cs.formed formedB bareCase
  simp only [Bool.and_eq_true,decide_eq_true_eq,List.length_map,bareJobs_length]
  exact ⟨h2,h9,trivial,by simp,h0,c1,c2,hp0,hp1⟩
theorem bareCase_bare {i:Nat} (hs:∀ s∈ss,secB s=true) (hc:chkL first=0) (hi:i<ss.length):(bareCase ss first place w r0 r1 r2).bareAt i=true∧((bareCase ss first place w r0 r1 r2).jobAt i).emptyB=true:=by
  have hg:ss[i]?=some ss[i]:=List.getElem?_eq_getElem hi
  unfold Cs.bareAt
  rw [bareCase_job hg,bareCase_key hg,bareCase_in (by omega)]
  refine ⟨?_,rfl⟩
  show (!true||checkBareB _ _ _ _)=true
  rw [show (bareJob ss[i] (bareLast (ss.take i) first)).bare=bareX ss[i] (bareLast (ss.take i) first) from rfl,show (bareJob ss[i] (bareLast (ss.take i) first)).proofs=bareP ss[i] (bareLast (ss.take i) first) from rfl,
    bare_ok (hs _ (List.getElem_mem hi)) (bareLast_chk hc)]
  rfl
theorem bareCase_bares (hs:∀ s∈ss,secB s=true) (hc:chkL first=0):(bareCase ss first place w r0 r1 r2).bares=true:=by
  unfold Cs.bares
  rw [List.all_eq_true]
  intro i hi
  have hi':i<ss.length:=by have:=List.mem_range.1 hi;unfold bareCase at this;simpa using this
  exact (bareCase_bare hs hc hi').1
theorem way_empty {c:Cs} : ∀ (f i k:Nat),(∀ j,i≤j→j<i+f→(c.jobAt j).emptyB=true)→c.way f i k=(0,0)
  | 0,_,_,_=>rfl
  | f+1,i,k,h=>by
    show (if (c.jobAt i).emptyB=true then c.way f (i+1) k else _)=_
    rw [if_pos (h i (Nat.le_refl i) (by omega))]
    exact way_empty f (i+1) k (fun j h1 h2=>h j (by omega) (by omega))
theorem bareCase_check (hs:∀ s∈ss,secB s=true) (h2:2≤ss.length) (h9:ss.length≤9) (h0:first.length≠0) (hc:chkL first=0) (hp0:0≤place) (hp1:place<first.length) :
    (bareCase ss first place w r0 r1 r2).check=if (bareCase ss first place w r0 r1 r2).sealed=true then (0,0,0) else (0,1,0):=by
  rw [check_of (bareCase_formed h2 h9 h0 hc hp0 hp1) (bareCase_valid hs) (bareCase_bares hs hc)]
  have hw:(bareCase ss first place w r0 r1 r2).way (bareCase ss first place w r0 r1 r2).keys.length 0 (bareCase ss first place w r0 r1 r2).place.toNat=(0,0) :=
    way_empty _ _ _ (fun j _ hj => (bareCase_bare hs hc (by have : (bareCase ss first place w r0 r1 r2).keys.length = ss.length := by unfold bareCase; simp
                                                            omega)).2)
  rw [hw]
end
theorem pub3:pubV 3=64:=by
  rw [pubV_eq (by decide)]
  unfold powV
  rw [if_pos valid_four]
  decide
theorem pub4:pubV 4=256:=by
  rw [pubV_eq (by decide)]
  unfold powV
  rw [if_pos valid_four]
  decide
def wS:Wd:=⟨5,6,7⟩
def jS:Int:=(restL [64,256]).getD 0 0
theorem keys_ok:∀ k∈[(64:Int),256],validB k=true:=by
  intro k hk
  simp only [List.mem_cons,List.not_mem_nil,or_false] at hk
  rcases hk with rfl | rfl
  · rw [←pub3];exact pub_valid (by decide)
  · rw [←pub4];exact pub_valid (by decide)
theorem rest_head_valid {l:List Int} (h:∀ k∈l,validB k=true):validB ((restL l).getD 0 0)=true:=by
  rw [List.getD_eq_getElem?_getD,List.getElem?_eq_getElem (by rw [restL_length];omega)]
  exact restL_valid h _ (List.getElem_mem _)
theorem jS_valid:validB jS=true:=rest_head_valid keys_ok
theorem seal_is {w:Wd} (hw:w.ok) {key:Int} (hk:validB key=true) (r0 r1 r2:Int):sealV key w.x w.y w.z r0 r1 r2=moreL key r0 r1 r2 (seal0 w.x w.y w.z)∧sealE key w.x w.y w.z=0:=by
  have hb:=sealB_ok.2 hw
  unfold sealV sealE
  rw [if_pos hk,if_pos hk,if_pos hb,if_pos hb]
  exact ⟨rfl,rfl⟩
def lS:Ltr:=moreL jS 1 2 3 (seal0 5 6 7)
theorem secs_ok:∀ s∈[(3:Int),4],secB s=true:=by
  intro s hs
  simp only [List.mem_cons,List.not_mem_nil,or_false] at hs
  rcases hs with rfl | rfl <;> decide
def cS (r2:Int):Cs:=bareCase [3,4] [lS] 0 wS 1 2 r2
def dS (j:Jb):Cs:={ cS 3 with jobs:=[bareJob 3 [lS],j] }
def zeroC:Cs:=⟨[],[],[],0,⟨0,0,0⟩,0,0,0,[]⟩
theorem zeroC_check:zeroC.check=(0,0,550):=by
  unfold Cs.check
  rw [if_neg]
  decide
end Go.Proofs.YtgkpomdegomgiaaGreatDoor
