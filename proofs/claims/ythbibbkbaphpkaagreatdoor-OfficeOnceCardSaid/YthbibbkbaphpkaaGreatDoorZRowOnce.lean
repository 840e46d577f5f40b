/- frankinglaw49.OfficeOnce answers true at every input, and leaves its arguments as they were; the listed variables lie as the program's text lays them (tied by the card). -/
import Derived.Test.YthbibbkbaphpkaaGreatDoorMbd
import Derived.Test.YthbibbkbaphpkaaGreatDoorMbe
set_option maxHeartbeats 16000000
set_option maxRecDepth 1000000
namespace Go.Proofs.YthbibbkbaphpkaaGreatDoor
open _root_.Go.Proofs.Tryz
open Go.ChangeShapes Go.WideShapes Go.ChangeAt Go.RowKit Go.Deep
theorem XZ {H:Type} {enc:TypeId×Value→H} {P:Program} {w:World} {base:Nat} {spare:Nat→Bool} {held:Bool} {t0 t1 t2 t3 t4 t5 t6 t7 t8:TypeId} {args:Array Value} {ds:List (DataW H)} {ps:List MemPlace}
  (h:DataW.TrodAll enc P w base spare held [t0,t1,t2,t3,t4,t5,t6,t7,t8] args.toList ds ps) :
  ∃ v0 v1 v2 v3 v4 v5 v6 v7 v8 d0 d1 d2 d3 d4 d5 d6 d7 d8 p0 p1 p2 p3 p4 p5 p6 p7 p8,args=#[v0,v1,v2,v3,v4,v5,v6,v7,v8]∧ds=[d0,d1,d2,d3,d4,d5,d6,d7,d8]∧DataW.Trod enc P w base spare held t0 v0 d0 p0∧DataW.Trod enc P w base spare held t1 v1 d1 p1∧DataW.Trod enc P w base spare held t2 v2 d2 p2∧DataW.Trod enc P w base spare held t3 v3 d3 p3∧DataW.Trod enc P w base spare held t4 v4 d4 p4∧DataW.Trod enc P w base spare held t5 v5 d5 p5∧DataW.Trod enc P w base spare held t6 v6 d6 p6∧DataW.Trod enc P w base spare held t7 v7 d7 p7∧DataW.Trod enc P w base spare held t8 v8 d8 p8:=by
 obtain ⟨v0,vs0,d0,ds0,p0,q0,hargs,rfl,rfl,hd0,r0⟩:=trodAll_cons h;obtain ⟨v1,vs1,d1,ds1,p1,q1,rfl,rfl,rfl,hd1,r1⟩:=trodAll_cons r0;obtain ⟨v2,vs2,d2,ds2,p2,q2,rfl,rfl,rfl,hd2,r2⟩:=trodAll_cons r1;obtain ⟨v3,vs3,d3,ds3,p3,q3,rfl,rfl,rfl,hd3,r3⟩:=trodAll_cons r2;obtain ⟨v4,vs4,d4,ds4,p4,q4,rfl,rfl,rfl,hd4,r4⟩:=trodAll_cons r3;obtain ⟨v5,vs5,d5,ds5,p5,q5,rfl,rfl,rfl,hd5,r5⟩:=trodAll_cons r4;obtain ⟨v6,vs6,d6,ds6,p6,q6,rfl,rfl,rfl,hd6,r6⟩:=trodAll_cons r5;obtain ⟨v7,vs7,d7,ds7,p7,q7,rfl,rfl,rfl,hd7,r7⟩:=trodAll_cons r6;obtain ⟨v8,vs8,d8,ds8,p8,q8,rfl,rfl,rfl,hd8,r8⟩:=trodAll_cons r7;obtain ⟨rfl,rfl,rfl⟩:=trodAll_nil r8;exact ⟨v0,v1,v2,v3,v4,v5,v6,v7,v8,d0,d1,d2,d3,d4,d5,d6,d7,d8,p0,p1,p2,p3,p4,p5,p6,p7,p8,by cases args;simp_all,rfl,hd0,hd1,hd2,hd3,hd4,hd5,hd6,hd7,hd8⟩
theorem X9 (os:Os) (started:os.Started) (H:Type) (enc:TypeId×Value→H) :
  ReturnsInHanded {} checked os 6 .any (fun w args=>(Rows.officeOnceSpec.pre enc prog Tryz.f6 [] false w args∧laidMetH prog um w)∧sizedMet enc prog Tryz.f6 (OpenSpec.ofChange Rows.officeOnceSpec) false w args)
   (Rows.officeOnceSpec.post enc prog Tryz.f6 false true false false):=by
 refine returnsInHanded_of_change_and (C:=checked) (X:=fun w _=>laidMetH prog um w) (fun _ _ _ hh h=>h.of_heap hh) Qr started (by kernel_rfl) func6
  (ChangeSpec.witness_at (enc:=enc) (C:=checked) (os:=os) (X:=fun w _=>laidMetH prog um w) false (laidWorld os) #[.agg #[.int .i64 0,.int .i64 0,.slice none 0 0,.slice none 0 0],.int .i64 0,.agg dM.cl.toArray,.agg dM.cl.toArray,.slice none 0 0,.slice none 0 0,.agg #[.slice none 0 0,.slice none 0 0,.slice none 0 0,.slice none 0 0,.slice none 0 0],.agg #[.slice none 0 0,.slice none 0 0,.slice none 0 0,.slice none 0 0,.slice none 0 0],.int .u8 0] 12 rfl (by kernel_rfl) (by kernel_rfl) (by kernel_rfl) (by kernel_rfl) (by kernel_rfl)
   (show laidMet prog um _ from laidMet_of_run (ps:=MemPlace.row ⟨0,0,none⟩ 8++[]++(MemPlace.row ⟨2,0,none⟩ 64++[]++[])) 12 (by kernel_rfl) (by kernel_rfl) (by kernel_rfl))) ?_
 intro W base args ds gs before hval0 hW _ hwt hL _;have hW':=hW;obtain ⟨p,q,hA0,hV,rfl,hfz,hnd⟩:=hW;have hA:DataW.TrodAll enc prog W 0 (fun _=>true) true Tryz.f6.params.toList args.toList ds p:=hA0;have hval:∀ (j:Nat) t v,Tryz.f6.params[j]?=some t→args[j]?=some v→Value.okWide prog W .any base t v:=hval0;rw [params6] at hA hwt hval;obtain ⟨rfl,rfl⟩:=trodVars_none hV;obtain ⟨v0,v1,v2,v3,v4,v5,v6,v7,v8,d0,d1,d2,d3,d4,d5,d6,d7,d8,p0,p1,p2,p3,p4,p5,p6,p7,p8,rfl,rfl,⟨f0,hf0⟩,⟨f1,hf1⟩,⟨f2,hf2⟩,⟨f3,hf3⟩,⟨f4,hf4⟩,⟨f5,hf5⟩,⟨f6,hf6⟩,⟨f7,hf7⟩,⟨f8,hf8⟩⟩:=XZ hA;have l0:Light prog 25 d0:=kJ hwt 0 _ _ rfl rfl;have l2:Light prog 33 d2:=kJ hwt 2 _ _ rfl rfl;have l3:Light prog 33 d3:=kJ hwt 3 _ _ rfl rfl;have l4:Light prog 34 d4:=kJ hwt 4 _ _ rfl rfl;have l5:Light prog 34 d5:=kJ hwt 5 _ _ rfl rfl;have l6:Light prog 39 d6:=kJ hwt 6 _ _ rfl rfl;have l7:Light prog 39 d7:=kJ hwt 7 _ _ rfl rfl;obtain ⟨o0,e0⟩:=XA hf0 l0;have z0:v0.cells.size=4:=by obtain ⟨A,c,vs,Au,cu,e,_⟩:=e0;have:=congrArg List.length e;simpa using this
 obtain ⟨x0,rfl,g0⟩:=qN (v:=v0) (by omega);rw [g0] at e0;obtain ⟨b1,rfl⟩:=okWide_int underlying3 (hval 1 3 v1 rfl rfl);obtain ⟨z1,e1,r1⟩:=jw hf1;obtain rfl:b1=z1:=by simpa [Value.cells] using e1
 obtain ⟨h2,e2,k2⟩:=Xr hf2 l2;have z2:v2.cells.size=42:=by have hl:=Hd.cl_length k2;rw [←e2] at hl;simpa using hl
 obtain ⟨x2,rfl,g2⟩:=qN (v:=v2) (by omega);rw [g2] at e2;obtain rfl:x2=h2.cl.toArray:=by rw [←e2]
 obtain ⟨h3,e3,k3⟩:=Xr hf3 l3;have z3:v3.cells.size=42:=by have hl:=Hd.cl_length k3;rw [←e3] at hl;simpa using hl
 obtain ⟨x3,rfl,g3⟩:=qN (v:=v3) (by omega);rw [g3] at e3;obtain rfl:x3=h3.cl.toArray:=by rw [←e3]
 obtain ⟨B4,n4,m4,rfl⟩:=okWide_slice underlying34 (hval 4 34 v4 rfl rfl);obtain ⟨A4,c4,y4,e4,r4⟩:=VD hf4 l4;simp [Value.cells] at e4;obtain ⟨rfl,rfl,rfl⟩:=e4;obtain ⟨B5,n5,m5,rfl⟩:=okWide_slice underlying34 (hval 5 34 v5 rfl rfl);obtain ⟨A5,c5,y5,e5,r5⟩:=VD hf5 l5;simp [Value.cells] at e5;obtain ⟨rfl,rfl,rfl⟩:=e5;obtain ⟨s6,t6,e6,r6⟩:=VI hf6 l6;have z6:v6.cells.size=5:=by have:=congrArg List.length e6;simpa [TS.cl] using this
 obtain ⟨x6,rfl,g6⟩:=qN (v:=v6) (by omega);rw [g6] at e6;obtain rfl:x6=s6.cl t6:=Array.toList_inj.1 e6;obtain ⟨s7,t7,e7,r7⟩:=VI hf7 l7;have z7:v7.cells.size=5:=by have:=congrArg List.length e7;simpa [TS.cl] using this
 obtain ⟨x7,rfl,g7⟩:=qN (v:=v7) (by omega);rw [g7] at e7;obtain rfl:x7=s7.cl t7:=Array.toList_inj.1 e7;obtain ⟨b8,rfl⟩:=okWide_int underlying5 (hval 8 5 v8 rfl rfl);obtain ⟨z8,e8,r8⟩:=Yu hf8;obtain rfl:b8=(z8:Nat):=by simpa [Value.cells] using e8
 refine (Yq x0 o0 b1 h2 h3 _ _ y4 _ _ y5 s6 t6 s7 t7 z8 W (Js hL) e0 r1 k2 k3 r4 ⟨r5,Oc underlying34 hf5⟩ r6 r7 r8).mono fun e W' ⟨he,bel⟩=>?_;subst he
 exact ⟨_,rfl,_,_,_,[],_,[],hW',trodAll_mk1 (shut_bool underlying4 _),uI bel (by
  rw [params6];exact of_decide_eq_true (by kernel_rfl)) hA0,rfl,bel.frame _,fun h=>by cases h⟩
theorem Yr:Rows.OfficeOnceSaid :=
 OpenClaim.holds_of_wide 6 Tryz.f6 rfl rfl rfl rfl rfl rfl rfl ⟨rfl,rfl,rfl,rfl,rfl⟩ rfl rfl rfl rfl rfl (by kernel_rfl) func6 (by kernel_rfl)
  (of_decide_eq_true (by kernel_rfl)) (by unfold Func.isWrapper;first | (rw [if_pos (by decide +kernel)];kernel_rfl) | (rw [if_neg (by decide +kernel)];exact ⟨rfl,rfl⟩))
  (fun os started H enc _=>X9 os started H enc)
theorem officeOnce_holds:Rows.OfficeOnceCardSaid :=
 Claim7.holds_tied_plain_at .later [] _ _ _ _
  Yr (fun _ h=>by cases h) (by kernel_rfl) (fun _ h=>by cases h) officeOnce_row_tie rfl ⟨rfl,rfl⟩ (by kernel_rfl) rfl
  (fun f fn hf hfn => by
   obtain rfl:f=6:=Option.some.inj ((show prog.funcNamed "franking/frankinglaw49.OfficeOnce" = some 6 by kernel_rfl).symm.trans hf) |>.symm
   obtain rfl:fn=Tryz.f6:=(Option.some.inj (func6.symm.trans hfn)).symm
   exact ⟨by kernel_rfl,fun j t ht=>by
    rw [params6] at ht
    have hall:(List.all [25,3,33,33,34,34,39,39,5] fun t=>!prog.wantsStandIn t)=true:=by kernel_rfl
    have:=aau.1 hall t (aam (by simpa using ht))
    show prog.wantsStandIn t=false
    simpa using this⟩)
  (by kernel_rfl)
#print axioms officeOnce_holds
end Go.Proofs.YthbibbkbaphpkaaGreatDoor
