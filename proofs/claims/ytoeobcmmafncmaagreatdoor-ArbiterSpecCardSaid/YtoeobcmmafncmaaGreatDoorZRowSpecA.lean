/- frankinglaw56.ArbiterSpec answers true at every input, and leaves its arguments as they were; the listed variables lie as the program's text lays them (tied by the card). -/
import Derived.Test.YtoeobcmmafncmaaGreatDoorSbx
set_option maxRecDepth 1000000
set_option maxHeartbeats 16000000
namespace Go.Proofs.YtoeobcmmafncmaaGreatDoor
open Go.ChangeShapes Go.WideShapes Go.RowKit
theorem spec56_lifted (os:Os) (started:os.Started) (H:Type) (enc:TypeId×Value→H) :
  ReturnsInHanded {} Tryz.checked os 3 .any (fun w args=>(Rows.arbiterSpecSpec.pre enc Tryz.prog Tryz.f3 [] false w args∧laidMetH Tryz.prog shaLaid w)∧sizedMet enc Tryz.prog Tryz.f3 (OpenSpec.ofChange Rows.arbiterSpecSpec) false w args)
   (Rows.arbiterSpecSpec.post enc Tryz.prog Tryz.f3 false true false false):=by
 refine returnsInHanded_of_change_and (C:=Tryz.checked) (X:=fun w _=>laidMetH Tryz.prog shaLaid w) (fun _ _ _ hh h=>h.of_heap hh) own_knob started (by kernel_rfl) Tryz.func3
  (ChangeSpec.witness_at (enc:=enc) (C:=Tryz.checked) (os:=os) (X:=fun w _=>laidMetH Tryz.prog shaLaid w) false (laidWorld os) #[.slice none 0 0,.agg zCaseA] 12 rfl (by kernel_rfl) (by kernel_rfl) (by kernel_rfl) (by kernel_rfl) (by kernel_rfl)
   (show laidMet Tryz.prog shaLaid _ from laidMet_of_run (ps:=MemPlace.row ⟨0,0,none⟩ 8++[]++(MemPlace.row ⟨1,0,none⟩ 64++[]++[])) 12 (by kernel_rfl) (by kernel_rfl) (by kernel_rfl))) ?_
 intro W base args ds gs before hval0 hW _ hwt hL _
 have hval:∀ (j:Nat) t v,Tryz.f3.params[j]?=some t→args[j]?=some v→Value.okWide Tryz.prog W .any base t v:=hval0
 have hW':=hW
 obtain ⟨p,q,hA0,hV,rfl,hfz,hnd⟩:=hW
 have hA:DataW.TrodAll enc Tryz.prog W 0 (fun _=>true) true Tryz.f3.params.toList args.toList ds p:=hA0
 rw [Tryz.params3] at hA hval hwt
 obtain ⟨rfl,rfl⟩:=trodVars_none hV
 obtain ⟨v0,v1,d0,d1,p0,p1,rfl,rfl,rfl,h0,h1⟩:=trodAll_two hA
 have l0:Light Tryz.prog 22 d0:=light_each hwt 0 _ _ rfl rfl
 have l1:Light Tryz.prog 33 d1:=light_each hwt 1 _ _ rfl rfl
 obtain ⟨A0',n0',c0',rfl⟩:=okWide_slice Tryz.underlying22 (hval 0 22 v0 rfl rfl)
 obtain ⟨f1,hf1⟩:=h1
 obtain ⟨jcs,a,hC,hCA⟩:=in_ca hf1 l1
 obtain ⟨cs0,rfl,e3⟩:=agg_of_cells (v:=v1) (by have:=hC.size;simp at this;omega)
 have hC':CaseAt W W.heap.size cs0 jcs a.c:=by simpa [Value.cells] using hC
 have hCA':a.c.few=true→CaAt W W.heap.size cs0 jcs a:=by simpa [Value.cells] using hCA
 obtain ⟨f0,hf0⟩:=h0
 obtain ⟨A1,c1,l,es,hlc,hcm,-,hR1,-⟩:=open_slice_w Tryz.underlying22 c_int (by omega) (f:=fun z:Int=>[Value.int .i64 z]) (Pr:=fun _=>True) (fun n cs y h _=>by obtain ⟨z,e,_⟩:=in_int h;exact ⟨z,e,rfl,trivial⟩) hf0 l0
 rw [show l.flatMap (fun z:Int=>[Value.int .i64 z])=ints l from ints_flat l] at hR1
 simp [Value.cells] at es
 obtain ⟨rfl,rfl,rfl⟩:=es
 refine (lw_spec56 judge_ok cs0 jcs a l _ _ W (sha_of_laid hL) hC' hCA' hR1 hlc (by unfold maxLen at hcm;omega)).mono fun e W' ⟨he,bel⟩=>?_
 subst he
 exact ⟨_,rfl,_,_,_,[],_,[],hW',trodAll_mk1 (shut_bool Tryz.underlying4 _),trodAll_stays bel (by
  rw [Tryz.params3]
  exact of_decide_eq_true (by kernel_rfl)) hA0,rfl,bel.frame _,fun h=>by cases h⟩
theorem arbiterSpec_row:Rows.ArbiterSpecSaid :=
 OpenClaim.holds_of_wide 3 Tryz.f3 rfl rfl rfl rfl rfl rfl rfl ⟨rfl,rfl,rfl,rfl,rfl⟩ rfl rfl rfl rfl rfl (by kernel_rfl) Tryz.func3 (by kernel_rfl)
  (of_decide_eq_true (by kernel_rfl)) (by unfold Func.isWrapper;first | (rw [if_pos (by decide +kernel)];kernel_rfl) | (rw [if_neg (by decide +kernel)];exact ⟨rfl,rfl⟩))
  (fun os started H enc _=>spec56_lifted os started H enc)
theorem arbiterSpec_holds:Rows.ArbiterSpecCardSaid :=
 Claim7.holds_tied_plain_at .later [] _ _ _ _
  arbiterSpec_row (fun _ h=>by cases h) (by kernel_rfl) (fun _ h=>by cases h) arbiterSpec_row_tie rfl ⟨rfl,rfl⟩ (by kernel_rfl) rfl
  (fun f fn hf hfn => by
   obtain rfl:f=3:=Option.some.inj ((show Tryz.prog.funcNamed "franking/frankinglaw56.ArbiterSpec" = some 3 by kernel_rfl).symm.trans hf) |>.symm
   obtain rfl:fn=Tryz.f3:=(Option.some.inj (Tryz.func3.symm.trans hfn)).symm
   exact ⟨by kernel_rfl,fun j t ht=>by
    rw [Tryz.params3] at ht
    have hall:(List.all [22,33] fun t=>!Tryz.prog.wantsStandIn t)=true:=by kernel_rfl
    have:=List.all_eq_true.1 hall t (List.mem_of_getElem? (by simpa using ht))
    show Tryz.prog.wantsStandIn t=false
    simpa using this⟩)
  (by kernel_rfl)
#print axioms arbiterSpec_holds
end Go.Proofs.YtoeobcmmafncmaaGreatDoor
