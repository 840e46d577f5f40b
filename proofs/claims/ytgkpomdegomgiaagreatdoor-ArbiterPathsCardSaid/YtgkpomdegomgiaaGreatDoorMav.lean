/- Letters and digests compared by '=='. -/
import Derived.Test.YtgkpomdegomgiaaGreatDoorMan
import Derived.Test.YtgkpomdegomgiaaGreatDoorMad
import Derived.ChangeKeysEq
import Derived.Test.YtgkpomdegomgiaaGreatDoorMau
set_option maxRecDepth 1000000
set_option maxHeartbeats 16000000
namespace Go.Proofs.YtgkpomdegomgiaaGreatDoor
open Go Go.RowKit
theorem eqCipher (d:Nat) (a b c e:Int) (w:World):(Op.equalIn (d+1+1) 68 (.agg #[.int .i64 a,.int .i64 b]) (.agg #[.int .i64 c,.int .i64 e])).run Tryz.prog w = .ok (a==c&&b==e) w:=by
  have hS:Tryz.prog.underlying 68=some (.struct (Tryz.prog.fieldsOf 68)):=by kernel_rfl
  have hp:Tryz.prog.stoodInHeld 68=false:=by kernel_rfl
  have u3:=Tryz.underlying3
  have a3:=Tryz.isAgg3
  have z3:=Tryz.sizeOf3
  rw [run_equalIn_agg w (d+1) 68 _ _ hS hp]
  simp only [Program.fieldsOf,Tryz.underlying68]
  go_simp
  by_cases h1:a=c <;> by_cases h2:b=e <;> simp [h1,h2]
theorem eqSealed (x y:Ltr) (w:World):(Op.equalIn 10000 70 x.agg y.agg).run Tryz.prog w = .ok ((x.a0==y.a0&&x.b0==y.b0)&&((x.a1==y.a1&&x.b1==y.b1)&&(x.a2==y.a2&&x.b2==y.b2))) w:=by
  have a3:=Tryz.isAgg68
  have z3:=Tryz.sizeOf68
  unfold Ltr.agg
  rw [show (10000:Nat)=9999+1 from rfl,Op.equalIn]
  simp only [Sem.run_bind,run_underlying Tryz.underlying70,Result.andThen_ok]
  simp only [Std.Legacy.Range.forIn_eq_forIn_range',Std.Legacy.Range.size,Nat.sub_zero,Nat.add_sub_cancel,Nat.div_one,List.range'_succ,List.range'_zero,List.forIn_cons,List.forIn_nil]
  have e1:=fun (a b c e:Int)=>eqCipher 9997 a b c e w
  go_simp
  by_cases h0:x.a0=y.a0
  · by_cases h1 : x.b0 = y.b0
    · by_cases h2 : x.a1 = y.a1
      · by_cases h3 : x.b1 = y.b1
        · by_cases h4 : x.a2 = y.a2
          · by_cases h5:x.b2=y.b2
            · simp [h0,h1,h2,h3,h4,h5]
            · simp [h0,h1,h2,h3,h4,h5]
          · simp [h0,h1,h2,h3,h4]
        · simp [h0,h1,h2,h3]
      · simp [h0,h1,h2]
    · simp [h0,h1]
  · simp [h0]
def Ltr.eqB (x y:Ltr):Bool:=(x.a0==y.a0&&x.b0==y.b0)&&((x.a1==y.a1&&x.b1==y.b1)&&(x.a2==y.a2&&x.b2==y.b2))
theorem Ltr.eqB_iff {x y:Ltr} : x.eqB y=true↔x=y:=by
  cases x;cases y
  simp [Ltr.eqB,and_assoc]
theorem run_eqS (x y:Ltr) (w:World):(binOp .eql 70 x.agg y.agg).run Tryz.prog w = .ok (.bool (x.eqB y)) w:=by
  show (binOp .eql 70 x.agg y.agg).run Tryz.prog w=_
  have h:=eqSealed x y w
  unfold Ltr.agg at h ⊢
  rw [run_eql_struct,h];rfl
theorem run_neS (x y:Ltr) (w:World):(binOp .neq 70 x.agg y.agg).run Tryz.prog w = .ok (.bool (!(x.eqB y))) w:=by
  show (binOp .neq 70 x.agg y.agg).run Tryz.prog w=_
  have h:=eqSealed x y w
  unfold Ltr.agg at h ⊢
  rw [run_neq_struct,h];rfl
theorem eqItems_byts (d:Nat) (a b:List Nat) (w:World):∀ is:List Nat,(∀ i∈is,i<a.length∧i<b.length) →
    (Op.eqItems (d+1) 5 1 (byts a).toArray (byts b).toArray is).run Tryz.prog w = .ok (is.all fun i=>a.getD i 0==b.getD i 0) w
  | [],_=>by simp [Op.eqItems]
  | i::is,h=>by
    obtain ⟨h1,h2⟩:=h i (by simp)
    have ih:=eqItems_byts d a b w is (fun j hj=>h j (by simp [hj]))
    have a5:=Tryz.isAgg5
    have x1:(byts a).toArray[i*1]?=some (.int .u8 (a.getD i 0:Nat)):=by simp [byts,h1]
    have x2:(byts b).toArray[i*1]?=some (.int .u8 (b.getD i 0:Nat)):=by simp [byts,h2]
    have p1:(part 5 (byts a).toArray (i*1)).run Tryz.prog w = .ok (.int .u8 (a.getD i 0:Nat)) w:=by simp only [part,Sem.run_bind,a5,Result.andThen_ok];rw [x1];simp
    have p2:(part 5 (byts b).toArray (i*1)).run Tryz.prog w = .ok (.int .u8 (b.getD i 0:Nat)) w:=by simp only [part,Sem.run_bind,a5,Result.andThen_ok];rw [x2];simp
    simp only [Op.eqItems,Sem.run_bind,p1,p2,Result.andThen_ok,run_equalIn_int w d 5 .u8 .u8 _ _ Tryz.underlying5]
    have e:(((a.getD i 0:Nat):Int)==((b.getD i 0:Nat):Int))=(a.getD i 0==b.getD i 0):=by
      generalize a.getD i 0=m
      generalize b.getD i 0=n
      rw [Bool.eq_iff_iff,beq_iff_eq,beq_iff_eq]
      omega
    rw [List.all_cons,e]
    cases (a.getD i 0==b.getD i 0)
    · simp
    · simpa using ih
theorem all_eq {a b:List Nat} (ha:a.length=32) (hb:b.length=32):((List.range 32).all fun i=>a.getD i 0==b.getD i 0)=decide (a=b):=by
  rw [Bool.eq_iff_iff,List.all_eq_true,decide_eq_true_eq]
  constructor
  · intro h
    apply List.ext_getElem?
    intro i
    rcases Nat.lt_or_ge i 32 with hi | hi
    · have:=h i (List.mem_range.2 hi)
      rw [beq_iff_eq,List.getD_eq_getElem?_getD,List.getD_eq_getElem?_getD] at this
      rw [List.getElem?_eq_getElem (by omega),List.getElem?_eq_getElem (by omega)] at this ⊢
      exact congrArg some this
    · rw [List.getElem?_eq_none (by omega),List.getElem?_eq_none (by omega)]
  · rintro rfl i _
    simp
theorem run_eqD (a b:List Nat) (ha:a.length=32) (hb:b.length=32) (w:World):(binOp .eql 43 (.agg (byts a).toArray) (.agg (byts b).toArray)).run Tryz.prog w = .ok (.bool (decide (a=b))) w:=by
  obtain ⟨i0,hi⟩:∃ i,Tryz.prog.info? 5=some i:=info_of_underlying Tryz.underlying5
  have hc:Tryz.prog.cellsOf 5=1:=by kernel_rfl
  have h2:(Op.equalIn 10000 43 (.agg (byts a).toArray) (.agg (byts b).toArray)).run Tryz.prog w = .ok (decide (a=b)) w:=by
    rw [show (10000:Nat)=9998+1+1 from rfl,run_equalIn_array w (9998+1) _ _ Tryz.underlying43 hi,hc,eqItems_byts 9998 a b w _ (by intro i hi;have:=List.mem_range.1 hi;omega),all_eq ha hb]
  rw [run_eql_struct,h2];rfl
end Go.Proofs.YtgkpomdegomgiaaGreatDoor
namespace Go.Proofs.YtgkpomdegomgiaaGreatDoor
open Go.RowKit
def leadsB (key:Int) (a b:Ltr) (r0 r1 r2:Int):Bool:=decide (againE key a=0)&&(againV key a r0 r1 r2).eqB b
theorem pa_leads (key:Int) (a b:Ltr) (r0 r1 r2:Int) (W:World) :
    Calls Tryz.prog 121 #[.int .i64 key,a.agg,b.agg,.agg #[.int .i64 r0,.int .i64 r1,.int .i64 r2]] W (Ret (.bool (leadsB key a b r0 r1 r2)) W):=by
  obtain ⟨W3,hW3⟩:∃ W3,W3=((W.alloc (.cells #[.int .i64 a.a0,.int .i64 a.b0,.int .i64 a.a1,.int .i64 a.b1,.int .i64 a.a2,.int .i64 a.b2] 70)).alloc (.cells #[.int .i64 b.a0,.int .i64 b.b0,.int .i64 b.a1,.int .i64 b.b1,.int .i64 b.a2,.int .i64 b.b2] 70)).alloc (.cells #[.int .i64 r0,.int .i64 r1,.int .i64 r2] 27):=⟨_,rfl⟩
  have h3:Below W.heap.size W W3:=by rw [hW3];exact bAl (bAl (bAl (bRefl W) _) _) _
  have BA:Blk W3 W.heap.size 70 #[.int .i64 a.a0,.int .i64 a.b0,.int .i64 a.a1,.int .i64 a.b1,.int .i64 a.a2,.int .i64 a.b2]:=by rw [hW3];exact ((Blk.new _ _ _ _ rfl).alloc _).alloc _
  have BB:Blk W3 (W.heap.size+1) 70 #[.int .i64 b.a0,.int .i64 b.b0,.int .i64 b.a1,.int .i64 b.b1,.int .i64 b.a2,.int .i64 b.b2]:=by rw [hW3];exact (Blk.new _ _ _ _ (by simp)).alloc _
  have BR:Blk W3 (W.heap.size+1+1) 27 #[.int .i64 r0,.int .i64 r1,.int .i64 r2]:=by rw [hW3];exact Blk.new _ _ _ _ (by simp)
  have q:=el_again key a r0 r1 r2 W3
  obtain ⟨v,hv⟩:∃ v,v=leadsB key a b r0 r1 r2:=⟨_,rfl⟩
  rw [←hv]
  obtain ⟨k0,k1,k2,k3,k4,k5⟩:=BA.six
  obtain ⟨m0,m1,m2⟩:=three BR
  unfold leadsB at hv
  go_enter Tryz.func121,Tryz.ntmps121
  unfold Ltr.agg at q ⊢
  go_upto_region 1 with fail
  rw [←hW3]
  clear hW3
  have Hv:=Lib.hid hv
  clear hv
  generalize againV key a r0 r1 r2=y at *
  generalize againE key a=e0 at *
  go_wp2_with fail
  (with_reducible refine q.mono ?_)
  rintro e w4 ⟨rfl,b4⟩
  clear q k0 k1 k2 k3 k4 k5 m0 m1 m2
  replace BB:=BB.below b4 BB.lt
  replace h3:=bCall h3 b4
  by_cases he:e0=0
  · have Hv2:Hid (v=y.eqB b):=by show _=_;rw [Hv.out,decide_eq_true he];rfl
    subst he
    have hq:=run_eqS y b
    unfold Ltr.agg at hq
    generalize y.eqB b=r at *
    obtain ⟨k0,k1,k2,k3,k4,k5⟩:=(BB.alloc (.cells #[.int .i64 y.a0,.int .i64 y.b0,.int .i64 y.a1,.int .i64 y.b1,.int .i64 y.a2,.int .i64 y.b2] 70)).six
    have h4:=bAl h3 (.cells #[.int .i64 y.a0,.int .i64 y.b0,.int .i64 y.a1,.int .i64 y.b1,.int .i64 y.a2,.int .i64 y.b2] 70)
    clear Hv
    go_wp2_with fail
    go_ret
    exact ⟨ret_bool Hv2.out.symm,h4⟩
  · have t:(e0==0)=false:=by rw [beq_eq_false_iff_ne];exact he
    have Hv2:Hid (v=false):=by show _=_;rw [Hv.out,decide_eq_false he];rfl
    clear he
    go_wp2_with fail
    go_ret
    exact ⟨ret_bool Hv2.out.symm,bAl h3 _⟩
end Go.Proofs.YtgkpomdegomgiaaGreatDoor
