/- frankinglaw49.OfficeRecorded answers true at every input, and leaves its arguments as they were; the listed variables lie as the program's text lays them (tied by the card). -/
import Derived.Test.YthbibbkbaphpkaaGreatDoorMbd
import Derived.Test.YthbibbkbaphpkaaGreatDoorMbe
set_option maxHeartbeats 16000000
set_option maxRecDepth 1000000
namespace Go.Proofs.YthbibbkbaphpkaaGreatDoor
open _root_.Go.Proofs.Tryz
open Go.ChangeShapes Go.WideShapes Go.ChangeAt Go.RowKit Go.Deep
theorem LG {H:Type} {enc:TypeId×Value→H} {P:Program} {w:World} {base:Nat} {spare:Nat→Bool} {held:Bool} {t0 t1 t2 t3 t4:TypeId} {args:Array Value} {ds:List (DataW H)} {ps:List MemPlace}
  (h:DataW.TrodAll enc P w base spare held [t0,t1,t2,t3,t4] args.toList ds ps) :
  ∃ v0 v1 v2 v3 v4 d0 d1 d2 d3 d4 p0 p1 p2 p3 p4,args=#[v0,v1,v2,v3,v4]∧ds=[d0,d1,d2,d3,d4]∧DataW.Trod enc P w base spare held t0 v0 d0 p0∧DataW.Trod enc P w base spare held t1 v1 d1 p1∧DataW.Trod enc P w base spare held t2 v2 d2 p2∧DataW.Trod enc P w base spare held t3 v3 d3 p3∧DataW.Trod enc P w base spare held t4 v4 d4 p4:=by
 obtain ⟨v0,vs0,d0,ds0,p0,q0,hargs,rfl,rfl,hd0,r0⟩:=trodAll_cons h;obtain ⟨v1,vs1,d1,ds1,p1,q1,rfl,rfl,rfl,hd1,r1⟩:=trodAll_cons r0;obtain ⟨v2,vs2,d2,ds2,p2,q2,rfl,rfl,rfl,hd2,r2⟩:=trodAll_cons r1;obtain ⟨v3,vs3,d3,ds3,p3,q3,rfl,rfl,rfl,hd3,r3⟩:=trodAll_cons r2;obtain ⟨v4,vs4,d4,ds4,p4,q4,rfl,rfl,rfl,hd4,r4⟩:=trodAll_cons r3;obtain ⟨rfl,rfl,rfl⟩:=trodAll_nil r4;exact ⟨v0,v1,v2,v3,v4,d0,d1,d2,d3,d4,p0,p1,p2,p3,p4,by cases args;simp_all,rfl,hd0,hd1,hd2,hd3,hd4⟩
theorem YB (os:Os) (started:os.Started) (H:Type) (enc:TypeId×Value→H) :
  ReturnsInHanded {} checked os 7 .any (fun w args=>(Rows.officeRecordedSpec.pre enc prog Tryz.f7 [] false w args∧laidMetH prog um w)∧sizedMet enc prog Tryz.f7 (OpenSpec.ofChange Rows.officeRecordedSpec) false w args)
   (Rows.officeRecordedSpec.post enc prog Tryz.f7 false true false false):=by
 refine returnsInHanded_of_change_and (C:=checked) (X:=fun w _=>laidMetH prog um w) (fun _ _ _ hh h=>h.of_heap hh) Qr started (by kernel_rfl) func7
  (ChangeSpec.witness_at (enc:=enc) (C:=checked) (os:=os) (X:=fun w _=>laidMetH prog um w) false (laidWorld os) #[.agg #[.int .i64 0,.int .i64 0,.slice none 0 0,.slice none 0 0],.int .i64 0,.agg dM.cl.toArray,.slice none 0 0,.agg #[.slice none 0 0,.slice none 0 0,.slice none 0 0,.slice none 0 0,.slice none 0 0]] 12 rfl (by kernel_rfl) (by kernel_rfl) (by kernel_rfl) (by kernel_rfl) (by kernel_rfl)
   (show laidMet prog um _ from laidMet_of_run (ps:=MemPlace.row ⟨0,0,none⟩ 8++[]++(MemPlace.row ⟨2,0,none⟩ 64++[]++[])) 12 (by kernel_rfl) (by kernel_rfl) (by kernel_rfl))) ?_
 intro W base args ds gs before hval0 hW _ hwt hL _;have hW':=hW;obtain ⟨p,q,hA0,hV,rfl,hfz,hnd⟩:=hW;have hA:DataW.TrodAll enc prog W 0 (fun _=>true) true Tryz.f7.params.toList args.toList ds p:=hA0;have hval:∀ (j:Nat) t v,Tryz.f7.params[j]?=some t→args[j]?=some v→Value.okWide prog W .any base t v:=hval0;rw [params7] at hA hwt hval;obtain ⟨rfl,rfl⟩:=trodVars_none hV;obtain ⟨v0,v1,v2,v3,v4,d0,d1,d2,d3,d4,p0,p1,p2,p3,p4,rfl,rfl,⟨f0,hf0⟩,⟨f1,hf1⟩,⟨f2,hf2⟩,⟨f3,hf3⟩,⟨f4,hf4⟩⟩:=LG hA;have l0:Light prog 25 d0:=kJ hwt 0 _ _ rfl rfl;have l2:Light prog 33 d2:=kJ hwt 2 _ _ rfl rfl;have l3:Light prog 34 d3:=kJ hwt 3 _ _ rfl rfl;have l4:Light prog 39 d4:=kJ hwt 4 _ _ rfl rfl;obtain ⟨o0,e0⟩:=XA hf0 l0;have z0:v0.cells.size=4:=by obtain ⟨A,c,vs,Au,cu,e,_⟩:=e0;have:=congrArg List.length e;simpa using this
 obtain ⟨x0,rfl,g0⟩:=qN (v:=v0) (by omega);rw [g0] at e0;obtain ⟨b1,rfl⟩:=okWide_int underlying3 (hval 1 3 v1 rfl rfl);obtain ⟨z1,e1,r1⟩:=jw hf1;obtain rfl:b1=z1:=by simpa [Value.cells] using e1
 obtain ⟨h2,e2,k2⟩:=Xr hf2 l2;have z2:v2.cells.size=42:=by have hl:=Hd.cl_length k2;rw [←e2] at hl;simpa using hl
 obtain ⟨x2,rfl,g2⟩:=qN (v:=v2) (by omega);rw [g2] at e2;obtain rfl:x2=h2.cl.toArray:=by rw [←e2]
 obtain ⟨B3,n3,m3,rfl⟩:=okWide_slice underlying34 (hval 3 34 v3 rfl rfl);obtain ⟨A3,c3,y3,e3,r3⟩:=VD hf3 l3;simp [Value.cells] at e3;obtain ⟨rfl,rfl,rfl⟩:=e3;obtain ⟨s4,t4,e4,r4⟩:=VI hf4 l4;have z4:v4.cells.size=5:=by have:=congrArg List.length e4;simpa [TS.cl] using this
 obtain ⟨x4,rfl,g4⟩:=qN (v:=v4) (by omega);rw [g4] at e4;obtain rfl:x4=s4.cl t4:=Array.toList_inj.1 e4;refine (LD x0 o0 b1 h2 _ _ y3 s4 t4 W (Js hL) e0 r1 k2 r3 r4).mono fun e W' ⟨he,bel⟩=>?_;subst he
 exact ⟨_,rfl,_,_,_,[],_,[],hW',trodAll_mk1 (shut_bool underlying4 _),uI bel (by
  rw [params7];exact of_decide_eq_true (by kernel_rfl)) hA0,rfl,bel.frame _,fun h=>by cases h⟩
theorem YP:Rows.OfficeRecordedSaid :=
 OpenClaim.holds_of_wide 7 Tryz.f7 rfl rfl rfl rfl rfl rfl rfl ⟨rfl,rfl,rfl,rfl,rfl⟩ rfl rfl rfl rfl rfl (by kernel_rfl) func7 (by kernel_rfl)
  (of_decide_eq_true (by kernel_rfl)) (by unfold Func.isWrapper;first | (rw [if_pos (by decide +kernel)];kernel_rfl) | (rw [if_neg (by decide +kernel)];exact ⟨rfl,rfl⟩))
  (fun os started H enc _=>YB os started H enc)
theorem officeRecorded_holds:Rows.OfficeRecordedCardSaid :=
 Claim7.holds_tied_plain_at .later [] _ _ _ _
  YP (fun _ h=>by cases h) (by kernel_rfl) (fun _ h=>by cases h) officeRecorded_row_tie rfl ⟨rfl,rfl⟩ (by kernel_rfl) rfl
  (fun f fn hf hfn => by
   obtain rfl:f=7:=Option.some.inj ((show prog.funcNamed "franking/frankinglaw49.OfficeRecorded" = some 7 by kernel_rfl).symm.trans hf) |>.symm
   obtain rfl:fn=Tryz.f7:=(Option.some.inj (func7.symm.trans hfn)).symm
   exact ⟨by kernel_rfl,fun j t ht=>by
    rw [params7] at ht
    have hall:(List.all [25,3,33,34,39] fun t=>!prog.wantsStandIn t)=true:=by kernel_rfl
    have:=aau.1 hall t (aam (by simpa using ht))
    show prog.wantsStandIn t=false
    simpa using this⟩)
  (by kernel_rfl)
#print axioms officeRecorded_holds
end Go.Proofs.YthbibbkbaphpkaaGreatDoor
