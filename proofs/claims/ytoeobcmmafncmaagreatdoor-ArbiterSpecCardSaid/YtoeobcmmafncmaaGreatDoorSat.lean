/- Cases with something else in them; loads and stores of long structs in a plain region. -/
import Derived.Test.YtoeobcmmafncmaaGreatDoorSas
import Derived.Test.YtoeobcmmafncmaaGreatDoorSad
import Derived.Laws.CopyRow
import Derived.Test.YtoeobcmmafncmaaGreatDoorSar
set_option maxRecDepth 1000000
set_option maxHeartbeats 16000000
namespace Go.Proofs.YtoeobcmmafncmaaGreatDoor
open Go.RowKit
theorem wpList_loadG {P:Program} {ops:Array Oper} {rest:List Oper} {o:Oper} {a:Act} {w:World} {Q:Exit→Act→World→Prop} (hgd:Region.wanted o (yielded ops a.tmps)=true) {ty:TypeId} {x:Operand} (ho:o.op = .load ty x) {q v:Value} (hx:a.eval x=q)
  (hl:(Instr.loadAt ty q).run P w = .ok v w) (h:wpList P ops Q rest (a.put o.dst v) w):wpList P ops Q (o::rest) a w :=
 wpList_step fun K hK=>by
  rw [if_pos hgd]
  unfold Oper.wp
  rw [exec_load ho hx hl]
  exact hK _ _ h
theorem wpList_storeG {P:Program} {ops:Array Oper} {rest:List Oper} {o:Oper} {a:Act} {w w':World} {Q:Exit→Act→World→Prop} (hgd:Region.wanted o (yielded ops a.tmps)=true) {ty:TypeId} {x y:Operand} (ho:o.op = .store ty x y) {q v:Value} (hx:a.eval x=q) (hy:a.eval y=v)
  (hl:(Instr.storeAt ty q v).run P w = .ok () w') (h:wpList P ops Q rest (a.put o.dst undef) w'):wpList P ops Q (o::rest) a w :=
 wpList_step fun K hK=>by
  rw [if_pos hgd]
  have e:(execOp a.eval o).run P w = .ok .skip w':=by
   unfold execOp
   rw [ho]
   simp only [Sem.run_bind,hx,hy,hl,Result.andThen_ok,Sem.run_pure]
  unfold Oper.wp
  rw [e]
  exact hK _ _ h
section
variable {w:World} {g g':Nat} {t t':TypeId} {cs cs' X:Array Value}
theorem Blk.row (h:Blk w g t cs) (X:Array Value):Blk (w.setRow g X) g t X:=setRow_heap w g cs X t _ h
theorem Blk.farRow (h:Blk w g t cs) (hne:g≠g') (X:Array Value):Blk (w.setRow g' X) g t cs:=(setRow_other w g' g X hne).trans h
theorem Blk.farRowT (h:Blk w g t cs) (h2:Blk w g' t' cs') (hne:t≠t') (X:Array Value):Blk (w.setRow g' X) g t cs:=h.farRow (by
 intro e
 subst e
 unfold Blk at h h2
 rw [h] at h2
 simp at h2
 exact hne h2.2) X
end
def JobIn' (w:World) (B:Nat) (jc:Array Value) (j:Jb):Prop:=jc.size=49∧(∀ v∈jc.toList,v.oneCell'=true)∧JobAt w B (fun i=>jc[i]?) j∧j.small
section
variable {w w':World} {B:Nat} {cs:Array Value} {jcs:List (Array Value)} {c:Cs}
theorem one_set {cs:Array Value} (h:∀ v∈cs.toList,v.oneCell'=true) (i:Nat) {u:Value} (hu:u.oneCell'=true):∀ v∈(cs.setIfInBounds i u).toList,v.oneCell'=true:=by
 intro v hv
 rw [Array.toList_setIfInBounds] at hv
 rcases List.mem_or_eq_of_mem_set hv with hv | rfl
 ·exact h v hv
 ·exact hu
theorem set_ne {cs:Array Value} {i j:Nat} {u:Value} (h:j≠i):(cs.setIfInBounds j u)[i]?=cs[i]?:=Array.getElem?_setIfInBounds_ne h
theorem set_eq {cs:Array Value} {i:Nat} {u:Value} (h:i<cs.size):(cs.setIfInBounds i u)[i]?=some u:=by rw [Array.getElem?_setIfInBounds_self,if_pos h]
theorem CaseAt.setJobs (h:CaseAt w B cs jcs c) {A:Option Addr} {cj:Nat} {jcs':List (Array Value)} {jobs':List Jb} (hR:Rd w B 49 A jobs'.length (jcs'.flatMap Array.toList)) (hl:jcs'.length=jobs'.length)
  (hjob:∀ k jc,jcs'[k]?=some jc→JobIn' w B jc (jobs'.getD k zeroJ)):CaseAt w B (cs.setIfInBounds 5 (.slice A jobs'.length cj)) jcs' { c with jobs:=jobs' }:=by
 have hs:=h.size
 refine ⟨by rw [Array.size_setIfInBounds,hs],one_set h.one 5 rfl,?_,?_,⟨A,cj,set_eq (by omega),hR⟩,hl,hjob,?_,?_,?_,?_,?_,?_,?_,?_,h.stepOk⟩
 all_goals rw [set_ne (by decide)]
 ·exact h.first
 ·exact h.keys
 ·exact h.place
 ·exact h.w0
 ·exact h.w1
 ·exact h.w2
 ·exact h.r0
 ·exact h.r1
 ·exact h.r2
 ·exact h.steps
end
theorem JobIn'.below {w w':World} {B:Nat} {jc:Array Value} {j:Jb} (h:JobIn' w B jc j) (b:Below B w w'):JobIn' w' B jc j:=⟨h.1,h.2.1,h.2.2.1.below b,h.2.2.2⟩
theorem JobIn'.more {w:World} {B B':Nat} {jc:Array Value} {j:Jb} (h:JobIn' w B jc j) (b:B≤B'):JobIn' w B' jc j:=⟨h.1,h.2.1,h.2.2.1.more b,h.2.2.2⟩
theorem case_info':(Tryz.prog.info? 33).map (·.size)=some 15:=by kernel_rfl
def CheckOk:Prop:=∀ (cs:Array Value) (jcs:List (Array Value)) (c:Cs) (W:World),CaseAt W W.heap.size cs jcs c→ShaG W →
 Calls Tryz.prog 12 #[.agg cs] W (Ret (.tuple #[.int .i64 c.check.1,.int .i64 c.check.2.1,.int .i64 c.check.2.2]) W)
theorem CheckOk.of (hP:CheckOk) {cs:Array Value} {jcs:List (Array Value)} {c:Cs} {W:World} (h:CaseAt W W.heap.size cs jcs c) (hG:ShaG W) {a b e:Int} (hc:c.check=(a,b,e)) :
  Calls Tryz.prog 12 #[.agg cs] W (Ret (.tuple #[.int .i64 a,.int .i64 b,.int .i64 e]) W):=by
 have:=hP cs jcs c W h hG
 rw [hc] at this
 exact this
theorem load_case {w:World} {g:Nat} {cs:Array Value} (h:Blk w g 33 cs) (hs:cs.size=15):(Instr.loadAt 33 (.pointer (some ⟨g,0,none⟩))).run Tryz.prog w = .ok (.agg cs) w :=
 load_blk h Tryz.underlying33 rfl (by rw [hs];exact case_info')
theorem load_job {w:World} {g:Nat} {cs:Array Value} (h:Blk w g 55 cs) (hs:cs.size=49):(Instr.loadAt 55 (.pointer (some ⟨g,0,none⟩))).run Tryz.prog w = .ok (.agg cs) w :=
 load_blk h Tryz.underlying55 rfl (by rw [hs];exact job_info)
theorem store_whole {P:Program} {w:World} {g:Nat} {t ty:TypeId} {old X:Array Value} (h:Blk w g t old) (hi:(P.info? ty).map (·.size)=some X.size) (ho:old.size=X.size) (h1:∀ v∈X.toList,v.oneCell'=true) :
  (Instr.storeAt ty (.pointer (some ⟨g,0,none⟩)) (.agg X)).run P w = .ok () (w.setRow g X):=by
 simp only [Instr.storeAt,Instr.sureAddr,Sem.run_bind,Sem.run_pure,Result.andThen_ok,run_storeVar_row w g t ty old X h hi ho (by have:=all_oneCell_toArray h1;simpa using this)]
theorem store_newW {P:Program} {w:World} {t ty:TypeId} {old X:Array Value} (hi:(P.info? ty).map (·.size)=some X.size) (ho:old.size=X.size) (h1:∀ v∈X.toList,v.oneCell'=true) :
  (Instr.storeAt ty (.pointer (some ⟨w.heap.size,0,none⟩)) (.agg X)).run P (w.alloc (.cells old t)) = .ok () (w.alloc (.cells X t)):=by
 rw [store_whole (Blk.new w t old _ rfl) hi ho h1,setRow_alloc]
def zJobC:Array Value:=#[.slice none 0 0,.slice none 0 0,.slice none 0 0,.slice none 0 0,.slice none 0 0,.slice none 0 0,.slice none 0 0,.int .i64 0,.int .i64 0,.int .i64 0,.int .i64 0,.int .i64 0,.int .i64 0,.int .i64 0,.int .u8 0,.int .u8 0,.int .u8 0,.int .u8 0,.int .u8 0,.int .u8 0,.int .u8 0,.int .u8 0,.int .u8 0,.int .u8 0,.int .u8 0,.int .u8 0,.int .u8 0,.int .u8 0,.int .u8 0,.int .u8 0,.int .u8 0,.int .u8 0,.int .u8 0,.int .u8 0,.int .u8 0,.int .u8 0,.int .u8 0,.int .u8 0,.int .u8 0,.int .u8 0,.int .u8 0,.int .u8 0,.int .u8 0,.int .u8 0,.int .u8 0,.int .u8 0,.int .i64 0,.int .i64 0,.int .i64 0]
def zJob:Value := .agg #[.slice none 0 0,.slice none 0 0,.slice none 0 0,.slice none 0 0,.slice none 0 0,.slice none 0 0,.slice none 0 0,.int .i64 0,.int .i64 0,.int .i64 0,.int .i64 0,.int .i64 0,.int .i64 0,.int .i64 0,.int .u8 0,.int .u8 0,.int .u8 0,.int .u8 0,.int .u8 0,.int .u8 0,.int .u8 0,.int .u8 0,.int .u8 0,.int .u8 0,.int .u8 0,.int .u8 0,.int .u8 0,.int .u8 0,.int .u8 0,.int .u8 0,.int .u8 0,.int .u8 0,.int .u8 0,.int .u8 0,.int .u8 0,.int .u8 0,.int .u8 0,.int .u8 0,.int .u8 0,.int .u8 0,.int .u8 0,.int .u8 0,.int .u8 0,.int .u8 0,.int .u8 0,.int .u8 0,.int .i64 0,.int .i64 0,.int .i64 0]
theorem job_info4:(Tryz.prog.info? 55).map (fun i=>(i.zero,i.size,i.bytes))=some (some zJob,49,280):=by kernel_rfl
def zLtr:Value := .agg #[.int .i64 0,.int .i64 0,.int .i64 0,.int .i64 0,.int .i64 0,.int .i64 0]
theorem own_empty (w:World) (e:TypeId) (sz base:Nat) (hb:base≤w.heap.size):(w.alloc (.cells #[] e)).ownsRow base e sz (.slice (some ⟨w.heap.size,0,none⟩) 0 0) 0 [] :=
 ⟨by simp,.inr ⟨w.heap.size,0,#[],rfl,hb,Blk.new w e #[] _ rfl,Nat.le_refl _,by unfold maxLen;omega,by simp,by simp⟩⟩
theorem own_some {w:World} {base n sz:Nat} {e:TypeId} {v:Value} {xs:List Value} (h:w.ownsRow base e sz v (0+n) ([]++xs)) (hn:0<n) :
  ∃ g cap cur,v = .slice (some ⟨g,0,none⟩) n cap∧base≤g∧Blk w g e cur∧n≤cap∧cap≤maxLen∧cur.size=cap*sz∧cur.toList.take (n*sz)=xs:=by
 rw [Nat.zero_add,List.nil_append] at h
 rcases h.2 with ⟨_,h0⟩ | ⟨g,cap,cur,h1,h2,h3,h4,h5,h6,h7⟩
 ·omega
 ·exact ⟨g,cap,cur,h1,h2,h3,h4,h5,h6,h7⟩
theorem Rd.of_blk {w:World} {g n sz:Nat} {e:TypeId} {cur:Array Value} {xs:List Value} (h:Blk w g e cur) (hx:cur.toList.take (n*sz)=xs) (hl:xs.length=n*sz):Rd w w.heap.size sz (some ⟨g,0,none⟩) n xs :=
 ⟨hl,fun _=>⟨g,0,rfl,h.lt,fun j u hu=>by
  rw [Nat.zero_add,h.cell]
  rw [←hx,List.getElem?_take] at hu
  split at hu
  ·simpa using hu
  ·cases hu⟩⟩
theorem u32s_one (l:List Nat):∀ v∈(u32s l).toArray.toList,v.oneCell'=true:=by
 intro v hv
 simp only [u32s] at hv
 obtain ⟨n,_,rfl⟩:=List.mem_map.1 (by simpa using hv)
 rfl
theorem w64_info:(Tryz.prog.info? 219).map (·.size)=some 64:=by kernel_rfl
theorem ref_numbers (W:World):Calls Tryz.prog 182 #[] W (Ret (.agg (u32s shaK).toArray) W):=by
 go_enter Tryz.func182,Tryz.ntmps182
 go_upto_region 1 with fail
 have hb:=bAl (bRefl W) (.cells (u32s shaK).toArray 219)
 have B:=Blk.new W 219 (u32s shaK).toArray _ rfl
 apply wp_region_lit
 iterate 3 go_step
 refine wpList_storeG (v := .agg (u32s shaK).toArray) (by rfl) (by rfl) (by rfl) (by rfl) (store_newW (by exact w64_info) (by rfl) (u32s_one shaK)) ?_
 simp only [Act.put]
 generalize W.alloc (.cells (u32s shaK).toArray 219)=w1 at *
 go_wp2_with fail
 exact bodyPost_ret (v := .agg (u32s shaK).toArray) (results_cell_row rfl _ _ W.heap.size 219 _ (0,0) _ rfl B Tryz.underlying219 rfl w64_info) rfl ⟨rfl,hb⟩
end Go.Proofs.YtoeobcmmafncmaaGreatDoor
