/- frankinglaw56.ArbiterPaths answers true at every input, and leaves its arguments as they were; the listed variables lie as the program's text lays them (tied by the card). -/
import Derived.Test.YtgkpomdegomgiaaGreatDoorMbx
import Derived.Test.YtgkpomdegomgiaaGreatDoorMbw
import Derived.Carry
set_option maxRecDepth 1000000
set_option maxHeartbeats 16000000
namespace Go.Proofs.YtgkpomdegomgiaaGreatDoor
open Go.ChangeShapes Go.WideShapes Go.RowKit
def zHandA:Array Value:=#[.int .i64 0,.int .i64 0,.int .i64 0,.int .i64 0,.int .i64 0,.int .i64 0,.int .i64 0,.int .u8 0,.int .u8 0,.int .u8 0,.int .u8 0,.int .u8 0,.int .u8 0,.int .u8 0,.int .u8 0,.int .u8 0,.int .u8 0,.int .u8 0,.int .u8 0,.int .u8 0,.int .u8 0,.int .u8 0,.int .u8 0,.int .u8 0,.int .u8 0,.int .u8 0,.int .u8 0,.int .u8 0,.int .u8 0,.int .u8 0,.int .u8 0,.int .u8 0,.int .u8 0,.int .u8 0,.int .u8 0,.int .u8 0,.int .u8 0,.int .u8 0,.int .u8 0,.int .i64 0,.int .i64 0,.int .i64 0]
theorem paths56_lifted (os:Os) (started:os.Started) (H:Type) (enc:TypeId×Value→H) :
    ReturnsInHanded {} Tryz.checked os 4 .any (fun w args=>(Rows.arbiterPathsSpec.pre enc Tryz.prog Tryz.f4 [] false w args∧laidMetH Tryz.prog shaLaid w)∧sizedMet enc Tryz.prog Tryz.f4 (OpenSpec.ofChange Rows.arbiterPathsSpec) false w args)
      (Rows.arbiterPathsSpec.post enc Tryz.prog Tryz.f4 false true false false):=by
  refine returnsInHanded_of_change_and (C:=Tryz.checked) (X:=fun w _=>laidMetH Tryz.prog shaLaid w) (fun _ _ _ hh h=>h.of_heap hh) own_knob started (by kernel_rfl) Tryz.func4
    (ChangeSpec.witness_at (enc:=enc) (C:=Tryz.checked) (os:=os) (X:=fun w _=>laidMetH Tryz.prog shaLaid w) false (laidWorld os) #[.slice none 0 0,.agg zCaseA,.agg zHandA,.int .i64 0] 12 rfl (by kernel_rfl) (by kernel_rfl) (by kernel_rfl) (by kernel_rfl) (by kernel_rfl)
      (show laidMet Tryz.prog shaLaid _ from laidMet_of_run (ps:=MemPlace.row ⟨0,0,none⟩ 8++[]++(MemPlace.row ⟨1,0,none⟩ 64++[]++[])) 12 (by kernel_rfl) (by kernel_rfl) (by kernel_rfl))) ?_
  intro W base args ds gs before hval0 hW _ hwt hL _
  have hval:∀ (j:Nat) t v,Tryz.f4.params[j]?=some t→args[j]?=some v→Value.okWide Tryz.prog W .any base t v:=hval0
  have hW':=hW
  obtain ⟨p,q,hA0,hV,rfl,hfz,hnd⟩:=hW
  have hA:DataW.TrodAll enc Tryz.prog W 0 (fun _=>true) true Tryz.f4.params.toList args.toList ds p:=hA0
  rw [Tryz.params4] at hA hval hwt
  obtain ⟨rfl,rfl⟩:=trodVars_none hV
  obtain ⟨v0,v1,v2,v3,d0,d1,d2,d3,p0,p1,p2,p3,rfl,rfl,rfl,h0,h1,h2,h3⟩:=trodAll_four hA
  have l0:Light Tryz.prog 22 d0:=light_each hwt 0 _ _ rfl rfl
  have l1:Light Tryz.prog 33 d1:=light_each hwt 1 _ _ rfl rfl
  have l2:Light Tryz.prog 47 d2:=light_each hwt 2 _ _ rfl rfl
  obtain ⟨n,rfl,rfl,rfl,w3⟩:=open_int Tryz.underlying3 (hval 3 3 v3 rfl rfl) h3
  obtain ⟨A0',n0',c0',rfl⟩:=okWide_slice Tryz.underlying22 (hval 0 22 v0 rfl rfl)
  obtain ⟨f1,hf1⟩:=h1
  obtain ⟨jcs,a,hC,hCA⟩:=in_ca hf1 l1
  obtain ⟨cs0,rfl,e3⟩:=agg_of_cells (v:=v1) (by have:=hC.size;simp at this;omega)
  have hC':CaseAt W W.heap.size cs0 jcs a.c:=by simpa [Value.cells] using hC
  have hCA':a.c.few=true→CaAt W W.heap.size cs0 jcs a:=by simpa [Value.cells] using hCA
  obtain ⟨f0,hf0⟩:=h0
  obtain ⟨A1,c1,l,es,hlc,hcm,-,hR1,-⟩:=open_slice_w Tryz.underlying22 c_int (by omega) (f:=fun z:Int=>[Value.int .i64 z]) (Pr:=fun _=>True) (fun n cs y h _=>by obtain ⟨z,e,_⟩:=in_int h;exact ⟨z,e,rfl,trivial⟩) hf0 l0
  rw [show l.flatMap (fun z:Int=>[Value.int .i64 z])=ints l from ints_flat l] at hR1
  simp [Value.cells] at es
  obtain ⟨rfl,rfl,rfl⟩:=es
  obtain ⟨f2,hf2⟩:=h2
  obtain ⟨hd,e5,hdo⟩:=in_hd hf2 l2
  obtain ⟨arr,rfl,e4⟩:=agg_of_cells (v:=v2) (by
    have:=congrArg List.length e5
    rw [Hd.cl_length hdo] at this
    simp at this
    omega)
  have e6:arr=hd.cl.toArray:=by
    have:arr.toList=hd.cl:=by simpa [Value.cells] using e5
    rw [←this,Array.toArray_toList]
  subst e6
  refine (lw_paths56 judge_ok cs0 jcs a l _ _ hd hdo n W (sha_of_laid hL) hC' hCA' hR1 hlc (by unfold maxLen at hcm;omega)).mono fun e W' ⟨he,bel⟩=>?_
  subst he
  exact ⟨_,rfl,_,_,_,[],_,[],hW',trodAll_mk1 (shut_bool Tryz.underlying4 _),trodAll_stays bel (by
    rw [Tryz.params4]
    exact of_decide_eq_true (by kernel_rfl)) hA0,rfl,bel.frame _,fun h=>by cases h⟩
theorem arbiterPaths_row:Rows.ArbiterPathsSaid :=
  OpenClaim.holds_of_wide 4 Tryz.f4 rfl rfl rfl rfl rfl rfl rfl ⟨rfl,rfl,rfl,rfl,rfl⟩ rfl rfl rfl rfl rfl (by kernel_rfl) Tryz.func4 (by kernel_rfl)
    (of_decide_eq_true (by kernel_rfl)) (by unfold Func.isWrapper;first | (rw [if_pos (by decide +kernel)];kernel_rfl) | (rw [if_neg (by decide +kernel)];exact ⟨rfl,rfl⟩))
    (fun os started H enc _=>paths56_lifted os started H enc)
theorem arbiterPaths_holds:Rows.ArbiterPathsCardSaid :=
  Claim7.holds_tied_plain_at .later [] [.data,.data] true (true, "ead3f32b28b49ff725c4e768f3e1d557698358442feb6f1e08cd07fac91403a6") true
    arbiterPaths_row (fun _ h=>by cases h) (by kernel_rfl) (fun _ h=>by cases h) arbiterPaths_row_tie rfl ⟨rfl,rfl⟩ (by kernel_rfl) rfl
    (fun f fn hf hfn => by
      obtain rfl:f=4:=Option.some.inj ((show Tryz.prog.funcNamed "franking/frankinglaw56.ArbiterPaths" = some 4 by kernel_rfl).symm.trans hf) |>.symm
      obtain rfl:fn=Tryz.f4:=(Option.some.inj (Tryz.func4.symm.trans hfn)).symm
      exact ⟨by kernel_rfl,fun j t ht=>by
        rw [Tryz.params4] at ht
        have hall:(List.all [22,33,47,3] fun t=>!Tryz.prog.wantsStandIn t)=true:=by kernel_rfl
        have:=List.all_eq_true.1 hall t (List.mem_of_getElem? (by simpa using ht))
        show Tryz.prog.wantsStandIn t=false
        simpa using this⟩)
    (by kernel_rfl)
#print axioms arbiterPaths_holds
end Go.Proofs.YtgkpomdegomgiaaGreatDoor
