/- The reference's Bare (one letter of a job), walked. -/
import Derived.Test.YtgkpomdegomgiaaGreatDoorMbo
set_option maxRecDepth 1000000
set_option maxHeartbeats 16000000
namespace Go.Proofs.YtgkpomdegomgiaaGreatDoor
open Go.RowKit
theorem SixAt.cells {w:World} {B n k:Nat} {A:Option Addr} {l:List Ltr} {x:Ltr} (h:Rd w B 6 A n (l.flatMap Ltr.cl)) (hn:k<n) (hx:l[k]?=some x):∃ b off,A=some ⟨b,off,none⟩∧b<B∧SixAt w b (off+k*6) x:=Ltr_at h hn hx
theorem rd_one {w:World} {g:Nat} {t:TypeId} {x:Ltr} (h:Blk w g t x.cells):Rd w w.heap.size 6 (some ⟨g,0,none⟩) 1 ([x].flatMap Ltr.cl):=by
  refine ⟨rfl,fun _=>⟨g,0,rfl,h.lt,fun j u hu=>?_⟩⟩
  rw [Nat.zero_add,h.cell]
  have:([x].flatMap Ltr.cl)=x.cells.toList:=by simp [Ltr.cl,Ltr.cells]
  rw [this] at hu
  simpa using hu
theorem ref_bare1 (key:Int) (jc:Array Value) (inn:List Ltr) (j:Jb) (k:Nat) (A:Option Addr) (c:Nat) (W:World) (hj:JobAt W W.heap.size (fun i=>jc[i]?) j) (hA:Rd W W.heap.size 6 A inn.length (inn.flatMap Ltr.cl)) :
    Calls Tryz.prog 98 #[.int .i64 key,.agg jc,.slice A inn.length c,.int .i64 (k:Nat)] W (Ret (.bool (strippedB key inn j k)) W):=by
  obtain ⟨v,hv⟩:∃ v,v=strippedB key inn j k:=⟨_,rfl⟩
  rw [←hv]
  unfold strippedB at hv
  obtain ⟨A0,c0,h0,r0,l0,l0'⟩:=hj.h0
  obtain ⟨A1,c1,h1,r1,l1,l1'⟩:=hj.h1
  have B0:=Blk.new W 55 jc _ rfl
  have hb:=bAl (bRefl W) (.cells jc 55)
  have k0:=(B0.cell 0).trans h0
  have k1:=(B0.cell 1).trans h1
  go_enter Tryz.func98,Tryz.ntmps98
  go_upto_region 1 with fail
  generalize W.alloc (.cells jc 55)=w1 at *
  have e0:(0:Int)≤(k:Int):=by omega
  by_cases t1:k<inn.length
  case neg =>
    have Hv:Hid (v=false):=by show _=_;rw [hv,decide_eq_false t1];rfl
    have e1:(inn.length:Int)≤(k:Int):=by omega
    clear hv t1
    go_wp2_with fail
    go_ret
    exact ⟨ret_bool Hv.out.symm,hb⟩
  have e1:(k:Int)<(inn.length:Int):=by omega
  by_cases t2:j.bare.length=inn.length
  case neg =>
    have Hv:Hid (v=false):=by show _=_;rw [hv,decide_eq_false t2];simp
    have e2:((j.bare.length:Int) != (inn.length:Int))=true:=by rw [bne_iff_ne];omega
    clear hv t2 t1
    go_wp2_with fail
    go_ret
    exact ⟨ret_bool Hv.out.symm,hb⟩
  have e2:((j.bare.length:Int) != (inn.length:Int))=false:=by rw [bne_eq_false_iff_eq];omega
  by_cases t3:j.proofs.length=inn.length
  case neg =>
    have Hv:Hid (v=false):=by show _=_;rw [hv,decide_eq_false t3];simp
    have e3:((j.proofs.length:Int) != (inn.length:Int))=true:=by rw [bne_iff_ne];omega
    clear hv t2 t3 t1
    go_wp2_with fail
    go_ret
    exact ⟨ret_bool Hv.out.symm,hb⟩
  have e3:((j.proofs.length:Int) != (inn.length:Int))=false:=by rw [bne_eq_false_iff_eq];omega
  have hkb:k<j.bare.length:=by omega
  have hkp:k<j.proofs.length:=by omega
  obtain ⟨X,hX⟩:∃ X,Hid (inn[k]?=some X):=⟨_,Lib.hid (List.getElem?_eq_getElem t1)⟩
  obtain ⟨Y,hY⟩:∃ X,Hid (j.bare[k]?=some X):=⟨_,Lib.hid (List.getElem?_eq_getElem hkb)⟩
  obtain ⟨Z,hZ⟩:∃ X,Hid (j.proofs[k]?=some X):=⟨_,Lib.hid (List.getElem?_eq_getElem hkp)⟩
  have Hv:Hid (v=checkBareB key [X] [Y] [Z]):=by
    show _=_
    rw [hv,decide_eq_true t1,decide_eq_true t2,decide_eq_true t3,List.getD_eq_getElem?_getD,List.getD_eq_getElem?_getD,List.getD_eq_getElem?_getD,hX.out,hY.out,hZ.out];rfl
  clear hv t2 t3
  obtain ⟨ba,oa,eA,hba,sa⟩:=SixAt.of (hA.below hb) t1 hX.out
  obtain ⟨bb,ob,eB,hbb,sb⟩:=SixAt.of (r0.below hb) hkb hY.out
  obtain ⟨bc,oc,eC,hbc,sc⟩:=SixAt.of (r1.below hb) hkp hZ.out
  subst eA;subst eB;subst eC
  have hws:=hb.size
  have f2:(k:Int)<(j.bare.length:Int):=by omega
  have f3:(k:Int)<(j.proofs.length:Int):=by omega
  have KS:Hid (∀ w',Below w1.heap.size w1 w'→(w'.cell? ⟨ba,oa+k*6,none⟩=some (.int .i64 X.a0)∧w'.cell? ⟨ba,oa+k*6+1,none⟩=some (.int .i64 X.b0)∧w'.cell? ⟨ba,oa+k*6+2,none⟩=some (.int .i64 X.a1)∧w'.cell? ⟨ba,oa+k*6+3,none⟩=some (.int .i64 X.b1)∧w'.cell? ⟨ba,oa+k*6+4,none⟩=some (.int .i64 X.a2)∧w'.cell? ⟨ba,oa+k*6+5,none⟩=some (.int .i64 X.b2))∧(w'.cell? ⟨bb,ob+k*6,none⟩=some (.int .i64 Y.a0)∧w'.cell? ⟨bb,ob+k*6+1,none⟩=some (.int .i64 Y.b0)∧w'.cell? ⟨bb,ob+k*6+2,none⟩=some (.int .i64 Y.a1)∧w'.cell? ⟨bb,ob+k*6+3,none⟩=some (.int .i64 Y.b1)∧w'.cell? ⟨bb,ob+k*6+4,none⟩=some (.int .i64 Y.a2)∧w'.cell? ⟨bb,ob+k*6+5,none⟩=some (.int .i64 Y.b2))∧(w'.cell? ⟨bc,oc+k*6,none⟩=some (.int .i64 Z.a0)∧w'.cell? ⟨bc,oc+k*6+1,none⟩=some (.int .i64 Z.b0)∧w'.cell? ⟨bc,oc+k*6+2,none⟩=some (.int .i64 Z.a1)∧w'.cell? ⟨bc,oc+k*6+3,none⟩=some (.int .i64 Z.b1)∧w'.cell? ⟨bc,oc+k*6+4,none⟩=some (.int .i64 Z.a2)∧w'.cell? ⟨bc,oc+k*6+5,none⟩=some (.int .i64 Z.b2))∧w'.cell? ⟨W.heap.size,0,none⟩=some (.slice (some ⟨bb,ob,none⟩) j.bare.length c0)∧w'.cell? ⟨W.heap.size,1,none⟩=some (.slice (some ⟨bc,oc,none⟩) j.proofs.length c1)):=Lib.hid (fun w' h=>⟨SixAt.below sa (by omega) h,SixAt.below sb (by omega) h,SixAt.below sc (by omega) h,((B0.below h B0.lt).cell 0).trans h0,((B0.below h B0.lt).cell 1).trans h1⟩)
  have q:Hid (∀ (w:World) (ga gb gc:Nat),Blk w ga 70 X.cells→Blk w gb 70 Y.cells→Blk w gc 138 Z.cells→Calls Tryz.prog 38 #[.int .i64 key,.slice (some ⟨ga,0,none⟩) 1 1,.slice (some ⟨gb,0,none⟩) 1 1,.slice (some ⟨gc,0,none⟩) 1 1] w (Ret (.bool v) w)):=by
    intro w ga gb gc b1 b2 b3
    rw [Hv.out]
    exact ref_checkBare key _ _ _ 1 1 1 _ _ _ [X] [Y] [Z] w (rd_one b1) (rd_one b2) (rd_one b3) (by omega) (by omega) (by omega)
  clear sa sb sc r0 r1 hA hj h0 h1
  go_upto_region 3 with fail
  clear k0 k1
  go_region_held3 (fun w'=>(w'.cell? ⟨ba,oa+k*6,none⟩=some (.int .i64 X.a0)∧w'.cell? ⟨ba,oa+k*6+1,none⟩=some (.int .i64 X.b0)∧w'.cell? ⟨ba,oa+k*6+2,none⟩=some (.int .i64 X.a1)∧w'.cell? ⟨ba,oa+k*6+3,none⟩=some (.int .i64 X.b1)∧w'.cell? ⟨ba,oa+k*6+4,none⟩=some (.int .i64 X.a2)∧w'.cell? ⟨ba,oa+k*6+5,none⟩=some (.int .i64 X.b2))∧(w'.cell? ⟨bb,ob+k*6,none⟩=some (.int .i64 Y.a0)∧w'.cell? ⟨bb,ob+k*6+1,none⟩=some (.int .i64 Y.b0)∧w'.cell? ⟨bb,ob+k*6+2,none⟩=some (.int .i64 Y.a1)∧w'.cell? ⟨bb,ob+k*6+3,none⟩=some (.int .i64 Y.b1)∧w'.cell? ⟨bb,ob+k*6+4,none⟩=some (.int .i64 Y.a2)∧w'.cell? ⟨bb,ob+k*6+5,none⟩=some (.int .i64 Y.b2))∧(w'.cell? ⟨bc,oc+k*6,none⟩=some (.int .i64 Z.a0)∧w'.cell? ⟨bc,oc+k*6+1,none⟩=some (.int .i64 Z.b0)∧w'.cell? ⟨bc,oc+k*6+2,none⟩=some (.int .i64 Z.a1)∧w'.cell? ⟨bc,oc+k*6+3,none⟩=some (.int .i64 Z.b1)∧w'.cell? ⟨bc,oc+k*6+4,none⟩=some (.int .i64 Z.a2)∧w'.cell? ⟨bc,oc+k*6+5,none⟩=some (.int .i64 Z.b2))∧w'.cell? ⟨W.heap.size,0,none⟩=some (.slice (some ⟨bb,ob,none⟩) j.bare.length c0)∧w'.cell? ⟨W.heap.size,1,none⟩=some (.slice (some ⟨bc,oc,none⟩) j.proofs.length c1))
    (exact KS.out _ (by repeat (first | with_reducible exact B7 | with_reducible exact bRefl _ | with_reducible refine bAl ?_ _ | with_reducible refine bDr ?_)))
    (first
    | (go_simp;go_at_call 38;(refine (q.out _ _ _ _ ?_ ?_ ?_).mono ?_);(iterate 3 (focus (repeat (first | (refine Blk.dr ?_) | (refine Blk.new _ _ _ _ ?_;simp;done) | refine Blk.alloc ?_ _))));rintro e w7 ⟨rfl,b7⟩;have B7:Below w1.heap.size w1 w7:=bCall (by repeat (first | exact bRefl _ | refine bAl ?_ _ | refine bDr ?_)) b7))
  all_goals
    go_wp2_with fail
    go_ret
    exact ⟨rfl,bCall hb B7⟩
end Go.Proofs.YtgkpomdegomgiaaGreatDoor
